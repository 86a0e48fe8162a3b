/- The operations that only reckon or read: the model gives what 'pstep' gives. No condition. -/
import Derived.Test.YtceocfancfjdjaaStep
namespace Go.Proofs.Ytceocfancfjdjaa
open Go Go.RowKit

section
variable {n : Nat} {ρ : Rho} {s : AS} {w : World} {a : Act}

theorem V.int_inv {O : Nat → Prop} {N : Nm → Nat → Prop} {k : IntKind} {i : Int} {v : Value} (h : V ρ w O N (.int k i) v) : v = .int k i := by cases h; rfl
theorem V.bool_inv {O : Nat → Prop} {N : Nm → Nat → Prop} {b : Bool} {v : Value} (h : V ρ w O N (.bool b) v) : v = .bool b := by cases h; rfl
theorem V.str_inv {O : Nat → Prop} {N : Nm → Nat → Prop} {b : ByteArray} {v : Value} (h : V ρ w O N (.str b) v) : v = .string b := by cases h; rfl

theorem intOp_run {op : BinOp} {k : IntKind} {x y : Int} {c : CV} (h : intOp op k x y = some c) (t : TypeId) (X Y : Operand) :
    ∃ v, (do eqGuard op t X Y (.int k x) (.int k y); binOp op t (.int k x) (.int k y) : Sem Value).run Try.prog w = .ok v w ∧ VS ρ s w c v := by
  unfold intOp at h
  split at h <;> cases h <;>
    first
      | (refine ⟨.bool _, ?_, V.bool _⟩; simp [eqGuard, binOp, Op.intCmp]; done)
      | (refine ⟨.int _ _, ?_, V.int _ _⟩; simp [eqGuard, binOp, Op.intArith]; done)

theorem strOp_run {op : BinOp} {x y : ByteArray} {c : CV} (h : strOp op x y = some c) (t : TypeId) (X Y : Operand) :
    ∃ v, (do eqGuard op t X Y (.string x) (.string y); binOp op t (.string x) (.string y) : Sem Value).run Try.prog w = .ok v w ∧ VS ρ s w c v := by
  unfold strOp at h
  split at h
  · cases h; exact ⟨.bool (seq x y), by rw [← seq_toList]; simp [eqGuard, binOp, Op.stringOp], .bool _⟩
  · cases h; exact ⟨.bool !(seq x y), by rw [← seq_toList]; simp [eqGuard, binOp, Op.stringOp], .bool _⟩
  · split at h
    · rename_i hle
      cases h
      refine ⟨.string (x ++ y), ?_, .str _⟩
      have : ¬ ((x.size + y.size : Nat) : Int) > IntKind.i64.max := by
        show ¬ ((x.size + y.size : Nat) : Int) > 9223372036854775807
        omega
      simp [eqGuard, binOp, Op.stringOp]
      simpa using this
    · cases h
  · cases h

theorem lenOf_run (hs : Sim n ρ s w a) {t : TypeId} {x : Operand} {c : CV} (h : lenOf s t (s.ev x) = some c) (ty : TypeId) :
    ∃ v, (Builtin.len_ #[t] ty #[a.eval x]).run Try.prog w = .ok v w ∧ VS ρ s w c v := by
  have hv := hs.ev x
  unfold lenOf at h
  generalize s.ev x = cx at h hv
  generalize a.eval x = vx at hv
  split at h
  · rename_i ht
    split at h <;> cases h
    cases hv
    exact ⟨.int .i64 _, by simp [Builtin.len_, run_underlying (tlen_str ht), goInt]; done, .int _ _⟩
  · rename_i ht
    obtain ⟨e, he⟩ := tlen_sl ht
    split at h <;> cases h <;> cases hv <;> exact ⟨.int .i64 _, by simp [Builtin.len_, run_underlying he, goInt]; done, .int _ _⟩
  · rename_i ht
    obtain ⟨k, e, he⟩ := tlen_mp ht
    split at h
    · cases h; cases hv
      exact ⟨.int .i64 0, by simp [Builtin.len_, run_underlying he, goInt], .int _ _⟩
    · rename_i o
      split at h <;> cases h
      rename_i es hes
      cases hv
      obtain ⟨mes, clock, hm, hlen, _⟩ := hs.rel.obj _ _ hes
      refine ⟨.int .i64 (es.length : Int), ?_, .int _ _⟩
      simp [Builtin.len_, run_underlying he, goInt, getObj, Sem.run, hm, hlen]
    · cases h
  · cases h

theorem under44 (w : World) (x : Value) : (Instr.makeInterface 44 x).run Try.prog w = .ok (.iface 44 x) w := by
  simp [Instr.makeInterface, run_underlying Try.underlying44]

theorem V.list {O : Nat → Prop} {N : Nm → Nat → Prop} {R : CV → Value → Prop} (hR : R = V ρ w O N) {cs : List CV} {vs : Array Value} (hl : cs.length = vs.size)
    (h : ∀ (j : Nat) (c : CV) (v : Value), cs[j]? = some c → vs[j]? = some v → R c v) : R (.agg cs) (.agg vs) := by
  subst hR; exact .agg cs vs hl h

theorem pstep_sound (hs : Sim n ρ s w a) {o : Oper} {c : CV} (h : pstep s o.op = some c) :
    ∃ v, (execOp a.eval o).run Try.prog w = .ok (.value v) w ∧ VS ρ s w c v := by
  obtain ⟨dst, op, type, pos, after, guard⟩ := o
  simp only at h
  cases op with
  | move x => simp only [pstep] at h; cases h; exact ⟨a.eval x, by simp [execOp], hs.ev x⟩
  | assign x => simp only [pstep] at h; cases h; exact ⟨a.eval x, by simp [execOp], hs.ev x⟩
  | pick x y z =>
    simp only [pstep] at h
    have hx := hs.ev x
    split at h
    · rename_i hb; cases h; rw [hb] at hx
      exact ⟨a.eval y, by simp [execOp, hx.bool_inv, asBool], hs.ev y⟩
    · rename_i hb; cases h; rw [hb] at hx
      exact ⟨a.eval z, by simp [execOp, hx.bool_inv, asBool], hs.ev z⟩
    · cases h
  | load t x =>
    simp only [pstep] at h
    have hx := hs.ev x
    split at h
    · rename_i row off hc
      rw [hc] at hx
      generalize hva : a.eval x = va at hx
      cases hx with
      | iptr _ _ b off0 cur ty fz hb hO hnl hsz hV =>
        obtain ⟨v, hr, hv⟩ := run_loadRow hb h hV hsz (fun cs vs hl hh => V.agg cs vs hl hh)
        exact ⟨v, by simp [execOp, hva, Instr.loadAt, Instr.sureAddr, hr], hv⟩
    · rename_i nm off hc
      rw [hc] at hx
      split at h
      · rename_i cs hg
        generalize hva : a.eval x = va at hx
        cases hx with
        | ptr _ _ _ hok =>
          obtain ⟨cur, e, hb, hV⟩ := hs.rel.obj _ _ hg
          have hsz : cs.length = cur.size := by simpa using hV.1
          obtain ⟨v, hr, hv⟩ := run_loadRow (o := 0) (row := cs) (R := VS ρ s w) hb h (fun j c v hj hv => hV.2 j c v hj (by simpa using hv)) (by omega) (fun cs vs hl hh => V.agg cs vs hl hh)
          rw [Nat.zero_add] at hr
          exact ⟨v, by simp [execOp, hva, Instr.loadAt, Instr.sureAddr, hr], hv⟩
      · cases h
    · cases h
  | binOp op t x y yt =>
    simp only [pstep] at h
    have hx := hs.ev x
    have hy := hs.ev y
    split at h
    · rename_i k i k' j hcx hcy
      rw [hcx] at hx; rw [hcy] at hy
      cases hk : keq k k' with
      | false => simp [hk] at h
      | true =>
        obtain rfl := keq_eq hk
        simp only [hk, cond_true] at h
        obtain ⟨v, hr, hv⟩ := intOp_run (s := s) (w := w) (ρ := ρ) h t x y
        exact ⟨v, by simp only [execOp, hx.int_inv, hy.int_inv]; rw [Sem.run_bind, hr]; rfl, hv⟩
    · rename_i i j hcx hcy
      rw [hcx] at hx; rw [hcy] at hy
      obtain ⟨v, hr, hv⟩ := strOp_run (s := s) (w := w) (ρ := ρ) h t x y
      exact ⟨v, by simp only [execOp, hx.str_inv, hy.str_inv]; rw [Sem.run_bind, hr]; rfl, hv⟩
    · cases h
  | unOp op t x =>
    cases op <;> simp only [pstep] at h <;> (try (cases h; done))
    have hx := hs.ev x
    split at h
    · rename_i b hc
      cases h
      rw [hc] at hx
      exact ⟨.bool !b, by simp [execOp, hx.bool_inv, Op.unary], .bool _⟩
    · cases h
  | fieldAddr t x k =>
    simp only [pstep] at h
    have hx := hs.ev x
    split at h
    · rename_i f row off hf hc
      cases h
      rw [hc] at hx
      generalize hva : a.eval x = va at hx
      cases hx with
      | iptr _ _ b off0 cur ty fz hb hO hnl hsz hV =>
        refine ⟨.pointer (some ⟨b, off0 + (off + f), none⟩), ?_, .iptr row (off + f) b off0 cur ty fz hb hO hnl hsz hV⟩
        simp only [execOp, hva]
        rw [Sem.run_bind, toff_ok hf, Nat.add_assoc]
        rfl
    · rename_i f nm ver off hf hc
      cases h
      rw [hc] at hx
      generalize hva : a.eval x = va at hx
      cases hx with
      | ptr _ _ _ hok =>
        refine ⟨.pointer (some ⟨(ρ nm ver).1, off + f, none⟩), ?_, .ptr nm ver (off + f) hok⟩
        simp only [execOp, hva]
        rw [Sem.run_bind, toff_ok hf]
        rfl
    · cases h
  | indexAddr t x i =>
    simp only [pstep] at h
    have hx := hs.ev x
    have hi := hs.ev i
    have hadd : ∀ b o m, (⟨b, o, none⟩ : Addr).add m = ⟨b, o + m, none⟩ := by intro b o m; unfold Addr.add; split <;> simp_all
    split at h
    · rename_i z row len j hz hc hci
      split at h
      · rename_i hj
        cases h
        rw [hc] at hx; rw [hci] at hi
        obtain ⟨e, he, hsz⟩ := tel_ok hz
        generalize hva : a.eval x = va at hx
        cases hx with
        | islice0 _ _ => exact absurd rfl hj.2.2
        | islice _ _ b off0 cap cur ty fz hb hO hnl hfit hlc hcm hV =>
          refine ⟨.pointer (some ⟨b, off0 + j.toNat * z, none⟩), ?_, .iptr row (j.toNat * z) b off0 cur ty fz hb hO hnl hfit hV⟩
          simp [execOp, hva, hi.int_inv, Instr.indexAt, asIntOf, run_underlying he, hj.1, hj.2.1, hsz, hadd]
      · cases h
    · rename_i z nm ver len j hz hc hci
      split at h
      · rename_i hj
        cases h
        rw [hc] at hx; rw [hci] at hi
        obtain ⟨e, he, hsz⟩ := tel_ok hz
        generalize hva : a.eval x = va at hx
        cases hx with
        | mslice _ _ _ hok =>
          refine ⟨.pointer (some ⟨(ρ nm ver).1, j.toNat * z, none⟩), ?_, .ptr nm ver (j.toNat * z) hok⟩
          simp [execOp, hva, hi.int_inv, Instr.indexAt, asIntOf, run_underlying he, hj.1, hj.2, hsz, hadd]
      · cases h
    · cases h
  | index t x i =>
    unfold pstep at h
    split at h <;> (try (cases h; done)) <;> rename_i heq <;> (try (cases heq; done))
    injection heq with e1 e2 e3
    subst e1; subst e2; subst e3
    have hx := hs.ev x
    have hi := hs.ev i
    split at h
    · rename_i b j hc hci
      split at h
      · rename_i hj
        cases h
        rw [hc] at hx; rw [hci] at hi
        have hlt : j.toNat < b.size := by omega
        refine ⟨.int .u8 ((b.data.toList.getD j.toNat 0).toNat : Int), ?_, .int _ _⟩
        have hget : b[j.toNat]? = some b[j.toNat] := by simp [hlt]
        have hg2 : b.data.toList.getD j.toNat 0 = b[j.toNat] := by
          have hlt' : j.toNat < b.data.toList.length := by simpa using hlt
          rw [List.getD_eq_getElem?_getD, List.getElem?_eq_getElem hlt']
          rfl
        rw [hg2]
        simp only [execOp, hx.str_inv, hi.int_inv]
        simp [Instr.index, asIntOf, run_underlying Try.underlying9, hj.1, hget]
      · cases h
    · cases h
  | extract x i =>
    simp only [pstep] at h
    have hx := hs.ev x
    split at h
    · rename_i cs hc
      rw [hc] at hx
      split at h
      · rename_i c0 r hd
        cases h
        have hsp := dropK_spec _ _ _ hd
        have hr : cs[i]? = some c := by
          have := congrArg (·[0]?) hsp.1
          simpa using this.symm
        generalize hva : a.eval x = va at hx
        cases hx with
        | tuple _ vs hl hV =>
          have hlt : i < vs.size := by have := (List.getElem?_eq_some_iff.1 hr).1; omega
          exact ⟨vs[i], by simp [execOp, hva, Instr.extract, hlt], hV i c _ hr (by simp [hlt])⟩
      · cases h
    · cases h
  | nilCheck x =>
    simp only [pstep] at h
    have hx := hs.ev x
    split at h
    · rename_i nm ver off hc
      cases h
      rw [hc] at hx
      generalize hva : a.eval x = va at hx
      cases hx with
      | ptr _ _ _ hok => exact ⟨.pointer (some ⟨_, _, none⟩), by simp [execOp, hva]; done, .ptr _ _ _ hok⟩
    · rename_i row off hc
      cases h
      rw [hc] at hx
      generalize hva : a.eval x = va at hx
      cases hx with
      | iptr _ _ b off0 cur ty fz hb hO hnl hsz hV => exact ⟨.pointer (some ⟨_, _, none⟩), by simp [execOp, hva]; done, .iptr _ _ b off0 cur ty fz hb hO hnl hsz hV⟩
    · cases h
  | call c =>
    simp only [pstep, callStep] at h
    obtain ⟨callee, args, argTypes⟩ := c
    simp only at h
    split at h
    · rename_i y t hargs htys
      have ha : args = #[y] := by rw [← Array.toList_inj]; simpa using hargs
      have ht : argTypes = #[t] := by rw [← Array.toList_inj]; simpa using htys
      subst ha; subst ht
      obtain ⟨v, hr, hv⟩ := lenOf_run hs h type
      exact ⟨v, by simp [execOp, resolve, invoke, builtin, hr], hv⟩
    · cases h
  | makeFunc fn first captured =>
    cases fn <;> simp only [pstep, capStep] at h <;> (try (cases h; done))
    split at h
    · rename_i f hf
      cases h
      have hfirst : first = #[] := by rw [← Array.toList_inj]; simpa using hf
      subst hfirst
      refine ⟨.func (.func _) #[] (captured.map a.eval), by simp [execOp, Instr.makeFunc], .func _ _ _ (by simp) ?_⟩
      intro j c v hc hv
      simp only [List.getElem?_map, Array.getElem?_toList] at hc
      simp only [Array.getElem?_map] at hv
      cases hcap : captured[j]? with
      | none => simp [hcap] at hc
      | some y =>
        simp [hcap] at hc hv
        subst hc; subst hv
        exact hs.ev y
    · cases h
  | makeInterface t x =>
    unfold pstep at h
    split at h <;> (try (cases h; done)) <;> rename_i heq <;> (try (cases heq; done))
    injection heq with e1 e2
    subst e1; subst e2
    cases h
    exact ⟨.iface 44 (a.eval x), by simp [execOp, under44], .iface 44 _ _ (hs.ev x)⟩
  | _ => simp [pstep] at h

end
end Go.Proofs.Ytceocfancfjdjaa
