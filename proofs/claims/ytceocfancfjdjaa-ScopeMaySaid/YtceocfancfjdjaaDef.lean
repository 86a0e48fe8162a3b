/- A deferred call: what it does to a frame that returns, and to one that panics. No condition. -/
import Derived.Test.YtceocfancfjdjaaScZ
import Derived.Recover
import Derived.Laws.MakeOwn
namespace Go.Proofs.Ytceocfancfjdjaa
open Go Go.RowKit

/-! ### operations of a frame that may look at its caller's panic -/

def AOpsS (n : Nat) (ops : Array Oper) (Q : APost) (l : List Nat) (s : AS) : Prop :=
  ∀ ρ w a cs, Sim n ρ s w a → wpOpsS Try.prog ops (fun e a' cs' w' => cs' = cs ∧ AQ n Q ρ s w e a' w') l a cs w

section
variable {n : Nat} {ops : Array Oper} {Q : APost} {s : AS} {o : Oper} {i : Nat} {rest : List Nat} {K : AS → Prop}

theorem AOpsS.nil (h : Q .normal s) : AOpsS n ops Q [] s := fun ρ w _ _ hs => ⟨rfl, .normal, s, ρ, trivial, h, hs, Evol.refl ρ s w⟩

theorem wpOpsS_mono {Q Q' : Exit → Act → List Frame → World → Prop} (hq : ∀ e a cs w, Q e a cs w → Q' e a cs w) : ∀ (l : List Nat) (a : Act) (cs : List Frame) (w : World), wpOpsS Try.prog ops Q l a cs w → wpOpsS Try.prog ops Q' l a cs w
  | [], _, _, _, h => hq _ _ _ _ h
  | i :: rest, a, cs, w, h => by
    simp only [wpOpsS] at h ⊢
    split
    · rename_i ho; simp only [ho] at h; exact wpOpsS_mono hq rest _ _ _ h
    · rename_i o ho
      simp only [ho] at h
      split
      · rename_i hw
        simp only [hw, if_true] at h
        split
        · rename_i w' hr
          simp only [hr] at h
          split
          · rename_i v cs' hrec; simp only [hrec] at h; exact wpOpsS_mono hq rest _ _ _ h
          · rename_i hrec; simp only [hrec] at h; exact wpOpsS_mono hq rest _ _ _ h
        · rename_i r hnot
          have h' : o.upon Try.prog a (fun a' w' => wpOpsS Try.prog ops Q rest a' cs w') (fun e a' w' => Q e a' cs w') ((execOp a.eval o).run Try.prog w) := by
            split at h
            · rename_i w' hr; exact absurd hr (hnot w')
            · exact h
          exact Oper.wp_mono2 (K := fun a' w' => wpOpsS Try.prog ops Q rest a' cs w') (fun a w h => wpOpsS_mono hq rest _ _ _ h) (fun e a w h => hq _ _ _ _ h) h'
      · rename_i hw
        simp only [hw] at h
        exact wpOpsS_mono hq rest _ _ _ h

theorem AOpsS.plain (ho : ops[i]? = some o) (hg : o.guard = none) (h : AOp Try.prog n o (AOpsS n ops Q rest) Q s) : AOpsS n ops Q (i :: rest) s := by
  intro ρ w a cs hs
  have h1 := h ρ w a hs
  simp only [wpOpsS, ho]
  rw [if_pos (by simp [Region.wanted, hg])]
  split
  · rename_i w' hr
    unfold Oper.wp at h1
    rw [hr] at h1
    exact h1.elim
  · refine Oper.wp_mono2 ?_ ?_ h1
    · rintro a' w' ⟨s', ρ', hk, hsim, hev⟩
      exact wpOpsS_mono (fun e a cs' w h => ⟨h.1, AQ.trans hev h.2⟩) rest a' cs w' (hk ρ' w' a' cs hsim)
    · exact fun e a w h => ⟨trivial, h⟩

/-- Is it one of that type? -/
theorem AOp.assertYes {x : Operand} {t : TypeId} {c : CV} (ho : o.op = .typeAssert x t 44 true) (hx : s.ev x = .iface 44 c) (hd : dstOk n o.dst = true) (k : K (s.put o.dst (.tuple [c, .bool true]))) :
    AOp Try.prog n o K Q s := by
  intro ρ w a hs
  have hv := hs.ev x
  rw [hx] at hv
  generalize hva : a.eval x = va at hv
  cases hv with
  | iface _ _ v hvc =>
    unfold Oper.wp
    have hr : (execOp a.eval o).run Try.prog w = .ok (.value (.tuple #[v, .bool true])) w := by
      simp [execOp, ho, hva, Instr.typeAssert, run_underlying Try.underlying44]
    rw [hr]
    refine ⟨_, ρ, k, hs.put hd (.tuple _ _ rfl ?_), (Evol.refl ρ s w).put _ _⟩
    intro j d u hc hu
    match j with
    | 0 => simp at hc hu; subst hc; subst hu; exact hvc
    | 1 => simp at hc hu; subst hc; subst hu; exact .bool _
    | j + 2 => simp at hc

theorem AOp.assertNo {x : Operand} {t : TypeId} (ho : o.op = .typeAssert x t 44 true) (hx : s.ev x = .nilIface) (hd : dstOk n o.dst = true)
    (k : K (s.put o.dst (.tuple [.agg [.int .i64 0, .int .i64 0], .bool false]))) : AOp Try.prog n o K Q s := by
  intro ρ w a hs
  have hv := hs.ev x
  rw [hx] at hv
  generalize hva : a.eval x = va at hv
  cases hv
  unfold Oper.wp
  have hz := zero_of_info zfo44 w
  have hr : (execOp a.eval o).run Try.prog w = .ok (.value (.tuple #[.agg #[.int .i64 0, .int .i64 0], .bool false])) w := by
    simp [execOp, ho, hva, Instr.typeAssert, run_underlying Try.underlying44, hz]
  rw [hr]
  refine ⟨_, ρ, k, hs.put hd (.tuple _ _ rfl ?_), (Evol.refl ρ s w).put _ _⟩
  intro j d u hc hu
  match j with
  | 0 =>
    simp at hc hu; subst hc; subst hu
    refine .agg _ _ rfl ?_
    intro j d u hc hu
    match j with
    | 0 => simp at hc hu; subst hc; subst hu; exact .int _ _
    | 1 => simp at hc hu; subst hc; subst hu; exact .int _ _
    | j + 2 => simp at hc
  | 1 => simp at hc hu; subst hc; subst hu; exact .bool _
  | j + 2 => simp at hc

/-- 'defer' of a function value. -/
theorem AOp.defer {c : Call} {x : Operand} {f : FuncId} {cap : List CV} (ho : o.op = .defer c) (hc : c.callee = .value x) (hargs : c.args = #[]) (hdst : o.dst = none) (hx : s.ev x = .func f cap)
    (k : K { s with ds := .func f cap :: s.ds }) : AOp Try.prog n o K Q s := by
  intro ρ w a hs
  have hv := hs.ev x
  rw [hx] at hv
  generalize hva : a.eval x = va at hv
  cases hv with
  | func _ _ vs hl hV =>
    unfold Oper.wp
    have hr : (execOp a.eval o).run Try.prog w = .ok (.defer { target := .fn (.func f) vs, args := #[] }) w := by
      simp [execOp, ho, resolve, hc, hargs, hva, Deferred.ofValue]
    rw [hr]
    refine ⟨_, ρ, k, ?_, ?_⟩
    · rw [hdst]
      show Sim n ρ { s with ds := .func f cap :: s.ds } w { a with defers := { target := .fn (.func f) vs, args := #[] } :: a.defers }
      refine ⟨⟨hs.rel.obj, hs.rel.inj, hs.rel.fb, hs.rel.fo, hs.rel.gl⟩, hs.size, hs.tmp, by simp [hs.defs.1], fun j d e hd he => ?_⟩
      cases j with
      | zero => simp at hd he; subst hd; subst he; exact ⟨f, cap, vs, rfl, rfl, by simpa using hl, fun j c v hc hv => hV j c v hc (by simpa using hv)⟩
      | succ j => exact hs.defs.2 j d e (by simpa using hd) (by simpa using he)
    · have h := Evol.refl ρ s w
      exact ⟨h.F, h.os, h.tape, h.output, h.size, h.frame, h.own, h.names⟩

end

theorem AQ.notOut {n : Nat} {Q : APost} {ρ : Rho} {s : AS} {w : World} : ¬ LetsOut (AQ n Q ρ s w) := by
  rintro ⟨a, w', ae, s', ρ', hex, _⟩
  cases ae <;> exact hex

/-- Operations that do not look at the caller's panic. -/
theorem wpOpsS_of_wpList {ops : Array Oper} {Q : Exit → Act → World → Prop} {QS : Exit → Act → List Frame → World → Prop} {cs : List Frame} (hq : ∀ e a w, Q e a w → QS e a cs w) (hout : ¬ LetsOut Q) :
    ∀ (l : List Oper) (k : Nat) (a : Act) (w : World), (∀ j, l[j]? = ops[k + j]?) → wpList Try.prog ops Q l a w → wpOpsS Try.prog ops QS (List.range' k l.length) a cs w
  | [], _, _, _, _, h => hq _ _ _ h
  | o :: r, k, a, w, hk, h => by
    have h0 : ops[k]? = some o := by simpa using (hk 0).symm
    have hk' : ∀ j, r[j]? = ops[k + 1 + j]? := fun j => by have := hk (j + 1); simpa [Nat.add_assoc, Nat.add_comm 1 j] using this
    simp only [List.length_cons, List.range'_succ, wpOpsS, h0]
    unfold wpList at h
    split
    · rename_i hw
      rw [if_pos hw] at h
      have h := h.resolve_right (fun h => hout h.2)
      unfold Oper.wp at h
      split
      · rename_i w' hr
        rw [hr] at h
        exact h.elim
      · refine Oper.wp_mono2 (K := wpList Try.prog ops Q r) (Q := Q) (fun a w h => ?_) (fun e a w h => hq e a w h) h
        exact wpOpsS_of_wpList hq hout r (k + 1) a w hk' h
    · rename_i hw
      rw [if_neg hw] at h
      exact wpOpsS_of_wpList hq hout r (k + 1) _ w hk' h

/-! ### a deferred call -/

def DMode (R : CV → Value → Prop) : Option CV → FrameMode → Prop
  | none, m => m = .returning
  | some c, m => ∃ v, R c v ∧ m = .panicking [{ v, recovered := false }]

/-- What a deferred call does: it ends, and stills the panic that its caller may be in. -/
def DCalls (f : FuncId) (args : List CV) (M : List AObj) (u : Option CV) (PP : List AObj → Prop) : Prop :=
  ∀ (ρ : Rho) (w : World) (cargs : Array Value) (m : FrameMode), Rel ρ (ASt M) w → VL (VS ρ (ASt M) w) args cargs.toList → DMode (VS ρ (ASt M) w) u m →
    CallsD Try.prog f cargs m w fun e m' w' => (∃ v, e = .returned v) ∧ settle m' = .returning ∧ ∃ M' ρ', PP M' ∧ Rel ρ' (ASt M') w' ∧ Evol ρ (ASt M) w ρ' (ASt M') w'

theorem enter_sim {fn : Func} {args : List CV} {M : List AObj} {ρ : Rho} {w : World} {cargs : Array Value} (hr : Rel ρ (ASt M) w) (hv : VL (VS ρ (ASt M) w) args cargs.toList) (hlen : Nat.ble args.length fn.ntmps = true) :
    Sim fn.ntmps ρ { fr := frOf 0 args, loc := [], M := M, ds := [] } w { tmps := cargs ++ Array.replicate (fn.ntmps - cargs.size) undef, defers := [] } := by
  have hsz : args.length = cargs.size := by simpa using hv.1
  have hlen := Nat.le_of_ble_eq_true hlen
  refine ⟨⟨hr.obj, hr.inj, hr.fb, hr.fo, hr.gl⟩, by simp; omega, fun t => ?_, rfl, by simp⟩
  show VS ρ (ASt M) w ((look (frOf 0 args) t).getD .undef) _
  rw [look_frOf, if_pos (Nat.zero_le t), Nat.sub_zero]
  by_cases ht : t < args.length
  · rw [List.getElem?_eq_getElem ht]
    have h1 := hv.2 t args[t] cargs[t] (List.getElem?_eq_getElem ht) (by rw [Array.getElem?_toList, Array.getElem?_eq_getElem (by omega)])
    have e : (cargs ++ Array.replicate (fn.ntmps - cargs.size) undef).getD t undef = cargs[t] := by
      rw [Array.getD_eq_getD_getElem?, Array.getElem?_append_left (by omega), Array.getElem?_eq_getElem (by omega)]
      rfl
    rw [e]
    exact h1
  · rw [List.getElem?_eq_none (by omega)]
    exact .undef _

def DQ (PP : List AObj → Prop) : APost
  | .normal, s | .ret, s => s.ds = [] ∧ PP s.M
  | _, _ => False

theorem DCalls.of_body {f : FuncId} {fn : Func} {id d : Nat} {o : Oper} {rest : List Oper} {y : Code} {args : List CV} {M : List AObj} {u : Option CV} {PP : List AObj → Prop} (hf : Try.prog.funcs[f]? = some fn)
    (hb : fn.body = some (.seq (.region id (o :: rest).toArray false) y)) (hres : fn.results = #[]) (hlen : Nat.ble args.length fn.ntmps = true)
    (hop : o.op = .call { callee := .builtin .recover, args := #[], argTypes := #[] }) (hg : o.guard = none) (hdst : o.dst = some d) (hd : Nat.blt d fn.ntmps = true)
    (h : AOps Try.prog fn.ntmps (o :: rest).toArray (AThen (AWp Try.prog fn.ntmps y (DQ PP)) (DQ PP)) rest { fr := (d, u.getD .nilIface) :: frOf 0 args, loc := [], M := M, ds := [] }) : DCalls f args M u PP := by
  intro ρ w cargs m hr hv hm
  refine callsD_of_wpS hf hb fun c₀ cs hmode => ?_
  have hs := enter_sim (fn := fn) hr hv hlen
  refine wpS_seq (wpS_region ?_)
  have hrange : List.range (o :: rest).toArray.size = 0 :: List.range' 1 rest.length := by
    rw [List.range_eq_range']
    simp [List.range'_succ]
  rw [hrange]
  have h0 : (o :: rest).toArray[0]? = some o := by simp
  simp only [wpOpsS, h0]
  rw [if_pos (by simp [Region.wanted, hg])]
  have hrec : ∀ a : Act, (execOp a.eval o).run Try.prog w = .ok .recover w := by
    intro a
    simp [execOp, hop, resolve, invoke, builtin]
  rw [hrec]
  simp only
  have fin : ∀ (v : Value) (m' : FrameMode), VS ρ (ASt M) w (u.getD .nilIface) v → settle m' = .returning →
      wpOpsS Try.prog (o :: rest).toArray (Exit.thenS (y.wpS Try.prog (bodyPostS Try.prog fn c₀ cs fun e m' w' => (∃ v, e = .returned v) ∧ settle m' = .returning ∧ ∃ M' ρ', PP M' ∧ Rel ρ' (ASt M') w' ∧ Evol ρ (ASt M) w ρ' (ASt M') w'))
        (bodyPostS Try.prog fn c₀ cs fun e m' w' => (∃ v, e = .returned v) ∧ settle m' = .returning ∧ ∃ M' ρ', PP M' ∧ Rel ρ' (ASt M') w' ∧ Evol ρ (ASt M) w ρ' (ASt M') w')) (List.range' 1 rest.length)
        (Act.put { tmps := cargs ++ Array.replicate (fn.ntmps - cargs.size) undef, defers := [] } o.dst v) ({ c₀ with mode := m' } :: cs) w := by
    intro v m' hv hm'
    have hs1 := hs.put (d := some d) hd (c := u.getD .nilIface) (v := v) hv
    rw [hdst]
    have done : ∀ (e : Exit) (a' : Act) (w' : World), AQ fn.ntmps (DQ PP) ρ { fr := (d, u.getD .nilIface) :: frOf 0 args, loc := [], M := M, ds := [] } w e a' w' →
        bodyPostS Try.prog fn c₀ cs (fun e m' w' => (∃ v, e = .returned v) ∧ settle m' = .returning ∧ ∃ M' ρ', PP M' ∧ Rel ρ' (ASt M') w' ∧ Evol ρ (ASt M) w ρ' (ASt M') w') e a' ({ c₀ with mode := m' } :: cs) w' := by
      rintro e a' w' ⟨ae, s', ρ', hex, hq, hsim, hev⟩
      have hev' := hev.toSt rfl rfl
      have hdef : s'.ds = [] → a'.defers = [] := by
        intro hds
        have := hsim.defs.1
        rw [hds] at this
        exact List.eq_nil_of_length_eq_zero (by simpa using this.symm)
      cases ae with
      | normal =>
        cases e <;> first | exact hex.elim | skip
        exact ⟨hdef hq.1, m', rfl, _, results_none hres a'.tmps Try.prog w', ⟨_, rfl⟩, hm', s'.M, ρ', hq.2, hsim.rel.toSt, hev'⟩
      | ret =>
        cases e <;> first | exact hex.elim | skip
        exact ⟨hdef hq.1, m', rfl, _, results_none hres a'.tmps Try.prog w', ⟨_, rfl⟩, hm', s'.M, ρ', hq.2, hsim.rel.toSt, hev'⟩
      | exit i => exact hq.elim
      | pan c => exact hq.elim
    refine wpOpsS_of_wpList (Q := AQ fn.ntmps (AThen (AWp Try.prog fn.ntmps y (DQ PP)) (DQ PP)) ρ { fr := (d, u.getD .nilIface) :: frOf 0 args, loc := [], M := M, ds := [] } w) ?_ AQ.notOut rest 1 _ w
      (fun j => by simp [Nat.add_comm 1 j]) (h ρ w _ hs1)
    rintro e a' w' ⟨ae, s', ρ', hex, hq, hsim, hev⟩
    cases ae with
    | normal =>
      cases e <;> first | exact hex.elim | skip
      exact wpS_of_wp (wp_mono (hq ρ' w' a' hsim) fun e a'' w'' h => done e a'' w'' (AQ.trans hev h))
    | ret =>
      cases e <;> first | exact hex.elim | skip
      exact done .ret a' w' ⟨.ret, s', ρ', trivial, hq, hsim, hev⟩
    | exit i => exact hq.elim
    | pan c => exact hq.elim
  cases u with
  | none =>
    have hm0 : c₀.mode = .returning := hmode.trans hm
    have hn : recoverD (c₀ :: cs) = none := by simp [recoverD, hm0]
    rw [hn]
    have := fin .nilIface .returning .nilIface rfl
    have e : ({ c₀ with mode := .returning } : Frame) = c₀ := by rw [← hm0]
    rw [e] at this
    exact this
  | some c =>
    obtain ⟨v, hcv, hmv⟩ := hm
    have hm0 : c₀.mode = .panicking [{ v, recovered := false }] := hmode.trans hmv
    have hn : recoverD (c₀ :: cs) = some (v, { c₀ with mode := .panicking [{ v, recovered := true }] } :: cs) := by simp [recoverD, hm0]
    rw [hn]
    exact fin v (.panicking [{ v, recovered := true }]) hcv rfl

end Go.Proofs.Ytceocfancfjdjaa
/- A function that defers one call: what it does; what a value is when all blocks are forgotten. No condition. -/
namespace Go.Proofs.Ytceocfancfjdjaa
open Go Go.RowKit

section
variable {n : Nat} {ρ : Rho} {s : AS} {w : World} {a : Act}

theorem calleeRel (hs : Sim n ρ s w a) : Rel (calleeRho ρ s) (ASt s.M) w := by
  have h0 := hs.rel.toSt
  refine ⟨fun o' y hy => ?_, h0.inj, fun b hb => ?_, fun b hb hO => ?_, h0.gl⟩
  · cases o' with
    | l t => simp [AS.get, ASt, look] at hy
    | g i =>
      have hold := hs.rel.obj (.g i) y hy
      have hn' := hs.rel.gl i y hy
      have tr : ∀ c v, VS ρ s w c v → noL c = true → VS (calleeRho ρ s) (ASt s.M) w c v := fun c v hv hnc =>
        V.drop hv hnc (fun _ _ hk => ⟨hk, rfl⟩) (fun b _ hO => ⟨rfl, fun h => hO (calleeOwn.1 h)⟩)
      cases y with
      | box cs =>
        obtain ⟨cur, e, hb, hV⟩ := hold
        exact ⟨cur, e, hb, hV.1, fun j c v hc hv => tr _ _ (hV.2 j c v hc hv) (noLs_get hn' hc)⟩
      | arr ver e sz cs =>
        obtain ⟨cur, hb, hl, hV, hcap⟩ := hold
        exact ⟨cur, hb, hl, ⟨hV.1, fun j c v hc hv => tr _ _ (hV.2 j c v hc hv) (noLs_get hn' hc)⟩, hcap⟩
      | map es => exact hold
  · exact hs.rel.own_lt (calleeOwn.1 (.inr hb))
  · rcases hb with hb | ⟨t, y, hy, e⟩
    · exact hs.rel.fo b hb (own_st hO)
    · obtain ⟨o', y', hy', e'⟩ := hO
      cases o' with
      | l t' => simp [AS.get, ASt, look] at hy'
      | g i =>
        have := hs.rel.inj (.g i) (.l t) y' y hy' hy (e'.trans e.symm)
        cases this

theorem calleeV {c : CV} {v : Value} (hv : VS ρ s w c v) (hn : noL c = true) : VS (calleeRho ρ s) (ASt s.M) w c v :=
  V.drop hv hn (fun _ _ hk => ⟨hk, rfl⟩) (fun b _ hO => ⟨rfl, fun h => hO (calleeOwn.1 h)⟩)

end

/-- How a frame is left: with nothing deferred, or with one call. -/
def DLeave (fn : Func) (QQ : ARes → List AObj → Prop) (u : Option CV) (s : AS) : Prop :=
  (s.ds = [] ∧ u = none ∧ ∃ c c', ARet fn s c ∧ Freeze s c c' ∧ QQ (.ret c') s.M) ∨
  ∃ (g : FuncId) (cap : List CV) (PP : List AObj → Prop), s.ds = [.func g cap] ∧ noLs cap = true ∧ Enter g ∧ DCalls g cap s.M u PP ∧
    ∀ M', PP M' → ∃ c c', ARet fn { fr := s.fr, loc := s.loc, M := M', ds := [] } c ∧ Freeze { fr := s.fr, loc := s.loc, M := M', ds := [] } c c' ∧ QQ (.ret c') M'

def bodyQD (fn : Func) (QQ : ARes → List AObj → Prop) : APost
  | .normal, s | .ret, s => DLeave fn QQ none s
  | .pan c, s => noL c = true ∧ DLeave fn QQ (some c) s
  | .exit _, _ => False

theorem leaves_of {n : Nat} {ρ : Rho} {s : AS} {w : World} {a : Act} {fn : Func} {QQ : ARes → List AObj → Prop} {u : Option CV} {m : FrameMode} {ρ0 : Rho} {M0 : List AObj} {w0 : World} (hs : Sim n ρ s w a)
    (hev0 : Evol ρ0 (ASt M0) w0 ρ (ASt s.M) w) (hm : DMode (VS ρ s w) u m) (hu : ∀ c, u = some c → noL c = true) (h : DLeave fn QQ u s) :
    Leaves Try.prog fn a.tmps (fun e w' => ∃ r M' ρ', QQ r M' ∧ Rel ρ' (ASt M') w' ∧ RRes (VS ρ' (ASt M') w') r e ∧ Evol ρ0 (ASt M0) w0 ρ' (ASt M') w') a.defers m w := by
  rcases h with ⟨hds, hnone, c, c', hret, hfz, hQ⟩ | ⟨g, cap, PP, hds, hcap, hent, hdc, hk⟩
  · have hd : a.defers = [] := by
      have := hs.defs.1
      rw [hds] at this
      exact List.eq_nil_of_length_eq_zero (by simpa using this.symm)
    subst hnone
    have hm : m = .returning := hm
    subst hm
    rw [hd]
    obtain ⟨v, hrun, hv⟩ := hret _ ρ w a hs
    exact ⟨v, hrun, .ret c', s.M, ρ, hQ, hs.rel.toSt, hfz _ ρ w a v hs hv, hev0⟩
  · have hlen := hs.defs.1
    rw [hds] at hlen
    obtain ⟨d, hd⟩ : ∃ d, a.defers = [d] := by
      cases hq : a.defers with
      | nil => rw [hq] at hlen; simp at hlen
      | cons d r =>
        rw [hq] at hlen
        simp at hlen
        exact ⟨d, by rw [hlen]⟩
    obtain ⟨f', cap', vs, hc1, hd1, hV1⟩ := hs.defs.2 0 (.func g cap) d (by rw [hds]; rfl) (by rw [hd]; rfl)
    cases hc1
    rw [hd, hd1]
    obtain ⟨fn', hf', hname, hbody⟩ := hent
    have hmne : m ≠ .run := by
      intro e
      subst e
      cases u with
      | none => cases hm
      | some c => obtain ⟨v, _, e⟩ := hm; cases e
    have hinv : (invoke (.fn (.func g) vs) #[]).run Try.prog w = .ok (.enter g vs) w := by
      have h1 : ¬ fn'.name = "runtime.NumGoroutine" := by simpa using hname
      have h2 : ¬ fn'.body = none := by intro e; simp [e] at hbody
      simp [invoke, callFunc, hf', h1, h2]
    refine leaves_cons hmne hinv ?_
    have hmode : DMode (VS (calleeRho ρ s) (ASt s.M) w) u m := by
      cases u with
      | none => exact hm
      | some c =>
        obtain ⟨v, hv, e⟩ := hm
        exact ⟨v, calleeV hv (hu c rfl), e⟩
    have hgo := hdc (calleeRho ρ s) w vs m (calleeRel hs) ⟨hV1.1, fun j c v hc hv => calleeV (hV1.2 j c v hc hv) (noLs_get hcap hc)⟩ hmode
    refine CallsD.mono hgo ?_
    rintro e m' w' ⟨⟨v, rfl⟩, hset, M', ρ', hPP, hr', hev⟩
    simp only
    rw [hset]
    obtain ⟨hsim, hevol, _⟩ := callBack hs hr' hev
    obtain ⟨c, c', hret, hfz, hQ⟩ := hk M' hPP
    have hsim' : Sim n (backRho ρ ρ') { fr := s.fr, loc := s.loc, M := M', ds := [] } w' { tmps := a.tmps, defers := [] } :=
      ⟨⟨hsim.rel.obj, hsim.rel.inj, hsim.rel.fb, hsim.rel.fo, hsim.rel.gl⟩, hsim.size, hsim.tmp, rfl, fun j c d hc _ => by simp at hc⟩
    obtain ⟨v, hrun, hv⟩ := hret _ _ w' _ hsim'
    have hev1 : Evol ρ (ASt s.M) w (backRho ρ ρ') (ASt M') w' := by
      refine ⟨rfl, hevol.os, hevol.tape, hevol.output, hevol.size, fun b hb hO => hev.frame b hb ?_, fun b hb => ?_, fun i k hk => hevol.names i k hk⟩
      · rintro ⟨o, x, hx, e⟩
        exact hO ⟨o, x, hx, e⟩
      · obtain ⟨o, x, hx, e⟩ := hb
        cases o with
        | l t => simp [AS.get, ASt, look] at hx
        | g i =>
          rcases hev.own b ⟨.g i, x, hx, e⟩ with ⟨o', x', hx', e'⟩ | h1
          · exact .inl ⟨o', x', hx', e'⟩
          · exact .inr h1
    exact ⟨v, hrun, .ret c', M', backRho ρ ρ', hQ, hsim'.rel.toSt, hfz _ _ w' _ v hsim' hv, hev0.trans hev1⟩

theorem ACalls.of_bodyD {f : FuncId} {fn : Func} {c : Code} {args : List CV} {M : List AObj} {QQ : ARes → List AObj → Prop} (hf : Try.prog.funcs[f]? = some fn) (hb : fn.body = some c)
    (hname : (fn.name == "runtime.NumGoroutine") = false) (hlen : Nat.ble args.length fn.ntmps = true)
    (h : AWp Try.prog fn.ntmps c (bodyQD fn QQ) { fr := frOf 0 args, loc := [], M := M, ds := [] }) : ACalls f args M QQ := by
  refine ⟨⟨fn, hf, hname, by rw [hb]; rfl⟩, fun ρ w cargs hr hv => ?_⟩
  have hsim := enter_sim (fn := fn) hr hv hlen
  refine calls_of_wp_defers hf hb (wp_mono (h ρ w _ hsim) ?_)
  rintro e a' w' ⟨ae, s', ρ', hex, hq, hs', hev⟩
  have hev' := hev.toSt rfl rfl
  cases ae with
  | normal =>
    cases e <;> first | exact hex.elim | skip
    exact leaves_of hs' hev' (u := none) rfl (fun c h => by cases h) hq
  | exit i => exact hq.elim
  | ret =>
    cases e <;> first | exact hex.elim | skip
    exact leaves_of hs' hev' (u := none) rfl (fun c h => by cases h) hq
  | pan c =>
    cases e <;> first | exact hex.elim | skip
    obtain ⟨v, hv, hch⟩ := hex
    exact leaves_of hs' hev' (u := some c) ⟨v, hv, by rw [hch]⟩ (fun c' h => by cases h; exact hq.1) hq.2

/-! ### all blocks forgotten -/

/-- A value as it is when nobody speaks of the blocks any more. -/
def FreezeG (M : List AObj) (c c' : CV) : Prop := ∀ (ρ : Rho) (w : World) (v : Value), Rel ρ (ASt M) w → VS ρ (ASt M) w c v → VS ρ (ASt []) w c' v

theorem not_own_nil {ρ : Rho} {b : Nat} : ¬ Own ρ (ASt []) b := by
  rintro ⟨o, x, hx, _⟩
  cases o <;> simp [AS.get, ASt, look] at hx

theorem FreezeG.pure {M : List AObj} {c : CV} (h : pureC c = true) : FreezeG M c c := fun ρ w v _ hv =>
  V.pure hv h fun b _ hO => ⟨rfl, fun h => h.elim (fun h => not_own_nil h) (fun hF => hO (.inr hF))⟩

theorem FreezeG.slice {M : List AObj} {i ver len sz : Nat} {e : TypeId} {cs : List CV} (hg : M[i]? = some (.arr ver e sz cs)) (hp : pures cs = true) (hl : cs.length = len * sz) (hsz : 0 < sz) :
    FreezeG M (.mslice (.g i) ver len) (.islice cs len) := by
  intro ρ w v hr hv
  cases hv
  obtain ⟨cur, hb, hfit, hV, hcap⟩ := hr.obj (.g i) _ hg
  have hlc : len ≤ (ρ (.g i) ver).2 := by
    rw [hl, hcap.1] at hfit
    exact Nat.le_of_mul_le_mul_right hfit hsz
  refine V.islice cs len (ρ (.g i) ver).1 0 (ρ (.g i) ver).2 cur e (0, 0) hb ?_ hp (by omega) hlc hcap.2 ?_
  · rintro (h | hF)
    · exact not_own_nil h
    · exact hr.fo _ hF ⟨.g i, _, hg, rfl⟩
  · intro j c v hc hv
    have hj := (List.getElem?_eq_some_iff.1 hc).1
    refine V.pure (hV.2 j c v hc ?_) (pures_get hp hc) (fun b _ hO => ⟨rfl, fun h => h.elim (fun h => not_own_nil h) (fun hF => hO (.inr hF))⟩)
    rw [List.getElem?_take, if_pos hj]
    simpa using hv

def FreezeGL (M : List AObj) : List CV → List CV → Prop
  | [], [] => True
  | c :: r, c' :: r' => FreezeG M c c' ∧ FreezeGL M r r'
  | _, _ => False

theorem FreezeGL.get {M : List AObj} {cs cs' : List CV} (h : FreezeGL M cs cs') : cs.length = cs'.length ∧ ∀ (j : Nat) (c' : CV), cs'[j]? = some c' → ∃ c, cs[j]? = some c ∧ FreezeG M c c' := by
  induction cs generalizing cs' with
  | nil =>
    cases cs' with
    | nil => exact ⟨rfl, fun j c' h => by simp at h⟩
    | cons c' r' => exact h.elim
  | cons c r ih =>
    cases cs' with
    | nil => exact h.elim
    | cons c' r' =>
      obtain ⟨h1, h2⟩ := h
      have := ih h2
      refine ⟨by simp [this.1], fun j d hd => ?_⟩
      cases j with
      | zero => simp at hd; subst hd; exact ⟨c, by simp, h1⟩
      | succ j => simpa using this.2 j d (by simpa using hd)

theorem FreezeG.agg {M : List AObj} {cs cs' : List CV} (h : FreezeGL M cs cs') : FreezeG M (.agg cs) (.agg cs') := by
  intro ρ w v hr hv
  cases hv with
  | agg _ vs hl hV =>
    refine .agg cs' vs (by rw [← h.get.1, hl]) (fun j c v hc hv => ?_)
    obtain ⟨c0, hc0, hf⟩ := h.get.2 j c hc
    exact hf ρ w v hr (hV j c0 v hc0 hv)

theorem FreezeG.tuple {M : List AObj} {cs cs' : List CV} (h : FreezeGL M cs cs') : FreezeG M (.tuple cs) (.tuple cs') := by
  intro ρ w v hr hv
  cases hv with
  | tuple _ vs hl hV =>
    refine .tuple cs' vs (by rw [← h.get.1, hl]) (fun j c v hc hv => ?_)
    obtain ⟨c0, hc0, hf⟩ := h.get.2 j c hc
    exact hf ρ w v hr (hV j c0 v hc0 hv)

/-- A call behind which nobody speaks of its blocks. -/
theorem ACalls.forget {f : FuncId} {args : List CV} {QQ QQ' : ARes → List AObj → Prop} (h : ACalls f args [] QQ)
    (hq : ∀ r M', QQ r M' → ∃ c c', r = .ret c ∧ FreezeG M' c c' ∧ QQ' (.ret c') []) : ACalls f args [] QQ' := by
  refine ⟨h.1, fun ρ w cargs hr hv => (h.2 ρ w cargs hr hv).mono ?_⟩
  rintro e w' ⟨r, M', ρ', hQ, hr', hres, hev⟩
  obtain ⟨c, c', rfl, hf, hQ'⟩ := hq r M' hQ
  have hb : ∀ b, ¬ Own ρ' (ASt []) b := fun b => not_own_nil
  refine ⟨.ret c', [], ρ', hQ', ⟨fun o x hx => ?_, fun o o' x x' hx => ?_, hr'.fb, fun b _ h => hb b h, fun i x hx => ?_⟩, ?_, ?_⟩
  · cases o <;> simp [AS.get, ASt, look] at hx
  · cases o <;> simp [AS.get, ASt, look] at hx
  · simp [AS.get, ASt] at hx
  · cases e with
    | returned v => exact hf ρ' w' v hr' hres
    | panicked ch => exact hres.elim
    | outgrown => exact hres.elim
  · exact ⟨hev.F, hev.os, hev.tape, hev.output, hev.size, hev.frame, fun b h => (hb b h).elim, fun i k ⟨x, hx, _⟩ => by simp [AS.get, ASt] at hx⟩

/-- A function's answer of three cells. -/
theorem ARet.cells3 {fn : Func} {s : AS} {t1 t2 t3 ty1 ty2 ty3 : Nat} {c1 c2 c3 : CV} (h : fn.results = #[.cell t1 ty1, .cell t2 ty2, .cell t3 ty3])
    (h1 : pstep s (.load ty1 (.tmp t1)) = some c1) (h2 : pstep s (.load ty2 (.tmp t2)) = some c2) (h3 : pstep s (.load ty3 (.tmp t3)) = some c3) : ARet fn s (.tuple [c1, c2, c3]) := by
  intro n ρ w a hs
  have one : ∀ (t ty : Nat) (c : CV), pstep s (.load ty (.tmp t)) = some c → ∃ ad v, a.tmps.getD t undef = .pointer (some ad) ∧ (loadVar ty ad).run Try.prog w = .ok v w ∧ VS ρ s w c v := by
    intro t ty c hl
    obtain ⟨v, hr, hv⟩ := pstep_sound (o := { (default : Oper) with op := .load ty (.tmp t) }) hs hl
    have hp : ∃ ad, a.tmps.getD t undef = .pointer (some ad) := by
      simp only [pstep, AS.ev] at hl
      have hx := hs.tmp t
      split at hl
      · rename_i row off hc; rw [hc] at hx
        generalize a.tmps.getD t undef = q at hx
        cases hx; exact ⟨_, rfl⟩
      · rename_i o off hc; rw [hc] at hx
        generalize a.tmps.getD t undef = q at hx
        cases hx; exact ⟨_, rfl⟩
      · cases hl
    obtain ⟨ad, had⟩ := hp
    refine ⟨ad, v, had, ?_, hv⟩
    simp only [execOp, Act.eval, had, Instr.loadAt, Instr.sureAddr] at hr
    rw [Sem.run_bind] at hr
    simp only [Sem.run_bind, Sem.run_pure, Result.andThen_ok] at hr
    cases hq : (loadVar ty ad).run Try.prog w with
    | ok v' w' => rw [hq] at hr; simp at hr; rw [hr.1, hr.2]
    | halt x w' => rw [hq] at hr; simp at hr
  obtain ⟨a1, v1, e1, r1, k1⟩ := one t1 ty1 c1 h1
  obtain ⟨a2, v2, e2, r2, k2⟩ := one t2 ty2 c2 h2
  obtain ⟨a3, v3, e3, r3, k3⟩ := one t3 ty3 c3 h3
  refine ⟨.tuple #[v1, v2, v3], ?_, .tuple _ _ rfl (fun j c v hc hv => ?_)⟩
  · rw [Array.getD_eq_getD_getElem?] at e1 e2 e3
    simp [results, h, e1, e2, e3, asAddr, r1, r2, r3]
  · match j with
    | 0 => simp at hc hv; subst hc; subst hv; exact k1
    | 1 => simp at hc hv; subst hc; subst hv; exact k2
    | 2 => simp at hc hv; subst hc; subst hv; exact k3
    | j + 3 => simp at hc

end Go.Proofs.Ytceocfancfjdjaa
