/- More rules: maps, calls that turn something or panic, frames that drop what is theirs alone. No condition. -/
import Derived.Test.YtceocfancfjdjaaDraw3
import Derived.Test.YtceocfancfjdjaaMem4
namespace Go.Proofs.Ytceocfancfjdjaa
open Go Go.RowKit

def noLfr : List (Nat × CV) → Bool
  | [] => true
  | (_, c) :: r => noL c && noLfr r

theorem noLfr_tmp {fr : List (Nat × CV)} (h : noLfr fr = true) (t : Nat) : noL ((look fr t).getD .undef) = true := by
  induction fr with
  | nil => rfl
  | cons p r ih =>
    obtain ⟨k, c⟩ := p
    simp only [noLfr, Bool.and_eq_true] at h
    rw [look_cons]
    split
    · exact h.1
    · exact ih h.2

theorem Sim.forget {n : Nat} {ρ : Rho} {fr : List (Nat × CV)} {loc : List (Nat × AObj)} {M : List AObj} {w : World} {a : Act} (hs : Sim n ρ { fr := fr, loc := loc, M := M, ds := [] } w a)
    (h : noLfr fr = true) : Sim n ρ { fr := fr, loc := [], M := M, ds := [] } w a := by
  have hr := hs.rel.toSt
  refine ⟨⟨hr.obj, hr.inj, hr.fb, hr.fo, hr.gl⟩, hs.size, fun t => ?_, ?_⟩
  · exact (hs.tmp t).toSt (noLfr_tmp h t)
  · exact ⟨hs.defs.1, fun j c d hc _ => by simp at hc⟩

theorem Evol.forget {ρ ρ' : Rho} {fr : List (Nat × CV)} {loc : List (Nat × AObj)} {M : List AObj} {w w' : World} {s' : AS} (h : Evol ρ { fr := fr, loc := [], M := M, ds := [] } w ρ' s' w') :
    Evol ρ { fr := fr, loc := loc, M := M, ds := [] } w ρ' s' w' := by
  have ho : ∀ b, Own ρ { fr := fr, loc := [], M := M, ds := [] } b → Own ρ { fr := fr, loc := loc, M := M, ds := [] } b := by
    rintro b ⟨o, x, hx, e⟩
    cases o with
    | l t => simp [AS.get, look] at hx
    | g i => exact ⟨.g i, x, hx, e⟩
  refine ⟨h.F, h.os, h.tape, h.output, h.size, fun b hb hO => h.frame b hb (fun h1 => hO (ho b h1)), fun b hb => (h.own b hb).imp (ho b) id, fun i k hk => ?_⟩
  obtain ⟨x, hx, hle⟩ := hk
  exact h.names i k ⟨x, hx, hle⟩

section
variable {P : Program} {n : Nat} {c : Code} {Q : APost} {fr fr' : List (Nat × CV)} {loc : List (Nat × AObj)} {M : List AObj}

/-- What is this frame's alone may be forgotten where nothing speaks of it. -/
theorem AWp.fresh (h : Sub fr fr') (hn : noLfr fr' = true) (k : AWp P n c Q { fr := fr', loc := [], M := M, ds := [] }) : AWp P n c Q { fr := fr, loc := loc, M := M, ds := [] } := by
  refine AWp.mask h ?_
  intro ρ w a hs
  exact wp_mono (k ρ w a (hs.forget hn)) fun _ _ _ ⟨ae, s', ρ', h1, h2, h3, h4⟩ => ⟨ae, s', ρ', h1, h2, h3, h4.forget⟩

theorem AWpL.fresh (h : Sub fr fr') (hn : noLfr fr' = true) (k : AWpL P n c Q { fr := fr', loc := [], M := M, ds := [] }) : AWpL P n c Q { fr := fr, loc := loc, M := M, ds := [] } := by
  refine AWpL.mask h ?_
  intro ρ w a hs b kk cs
  obtain ⟨e, a', w', ⟨ae, s', ρ', h1, h2, h3, h4⟩, harr⟩ := k ρ w a (hs.forget hn) b kk cs
  exact ⟨e, a', w', ⟨ae, s', ρ', h1, h2, h3, h4.forget⟩, harr⟩

end

section
variable {n : Nat} {Q : APost} {o : Oper} {K : AS → Prop} {fr : List (Nat × CV)} {loc : List (Nat × AObj)} {M : List AObj} {ds : List CV} {d : Nat}

theorem W.makeMap {t : TypeId} (ho : o.op = .makeMap t none) (hdst : o.dst = some d) (hd : Nat.blt d n = true) (k : K { fr := (d, .map (.g M.length)) :: fr, loc := loc, M := M ++ [.map []], ds := ds }) :
    AOp Try.prog n o K Q { fr := fr, loc := loc, M := M, ds := ds } := AOp.makeMap ho (by rw [hdst]; exact hd) (by rw [hdst]; exact k)

theorem W.lookup {x y : Operand} {i : Nat} {es : List (ByteArray × Int)} {b : ByteArray} {r : Option Int} (ho : o.op = .lookup 48 x y true) (hx : AS.ev { fr := fr, loc := loc, M := M, ds := ds } x = .map (.g i))
    (hg : M[i]? = some (.map es)) (hy : AS.ev { fr := fr, loc := loc, M := M, ds := ds } y = .str b) (hdst : o.dst = some d) (hd : Nat.blt d n = true) (hm : mget es b = r)
    (k : K { fr := (d, .tuple [.int .i64 (r.getD 0), .bool r.isSome]) :: fr, loc := loc, M := M, ds := ds }) : AOp Try.prog n o K Q { fr := fr, loc := loc, M := M, ds := ds } := by
  subst hm
  exact AOp.lookup ho (.inl ⟨hx, hg⟩) hy (by rw [hdst]; exact hd) (by rw [hdst]; exact k)

theorem W.lookupNil {x y : Operand} {b : ByteArray} (ho : o.op = .lookup 48 x y true) (hx : AS.ev { fr := fr, loc := loc, M := M, ds := ds } x = .nilmap)
    (hy : AS.ev { fr := fr, loc := loc, M := M, ds := ds } y = .str b) (hdst : o.dst = some d) (hd : Nat.blt d n = true)
    (k : K { fr := (d, .tuple [.int .i64 0, .bool false]) :: fr, loc := loc, M := M, ds := ds }) : AOp Try.prog n o K Q { fr := fr, loc := loc, M := M, ds := ds } :=
  AOp.lookup (es := []) (nm := .g 0) ho (.inr ⟨hx, rfl⟩) hy (by rw [hdst]; exact hd) (by rw [hdst]; exact k)

theorem W.mapNew {x y z : Operand} {i : Nat} {es : List (ByteArray × Int)} {b : ByteArray} {v : Int} (ho : o.op = .mapUpdate 48 x y z) (hdst : o.dst = none) (hx : AS.ev { fr := fr, loc := loc, M := M, ds := ds } x = .map (.g i))
    (hg : M[i]? = some (.map es)) (hy : AS.ev { fr := fr, loc := loc, M := M, ds := ds } y = .str b) (hz : AS.ev { fr := fr, loc := loc, M := M, ds := ds } z = .int .i64 v) (hno : mget es b = none)
    (k : K { fr := fr, loc := loc, M := M.set i (.map (es ++ [(b, v)])), ds := ds }) : AOp Try.prog n o K Q { fr := fr, loc := loc, M := M, ds := ds } :=
  AOp.mapNew ho hdst hx hg hy hz hno k

/-- How many entries. -/
theorem W.lenMap {x : Operand} {i : Nat} {es : List (ByteArray × Int)} (ho : o.op = .call { callee := .builtin .len, args := #[x], argTypes := #[48] }) (hx : AS.ev { fr := fr, loc := loc, M := M, ds := ds } x = .map (.g i))
    (hg : M[i]? = some (.map es)) (hdst : o.dst = some d) (hd : Nat.blt d n = true) (k : K { fr := (d, .int .i64 (es.length : Int)) :: fr, loc := loc, M := M, ds := ds }) :
    AOp Try.prog n o K Q { fr := fr, loc := loc, M := M, ds := ds } := by
  refine AOp.pure (c := .int .i64 (es.length : Int)) ?_ (by rw [hdst]; exact hd) (by rw [hdst]; exact k)
  rw [ho]
  simp only [pstep, callStep, lenOf, tlen, hx, AS.get, hg]

/-- A call that answers v and leaves the blocks M1. -/
theorem W.callR {c : Call} {x : Operand} {f : FuncId} {cap args : List CV} {v : CV} {M1 : List AObj} (ho : o.op = .call c) (hc : c.callee = .value x) (hx : AS.ev { fr := fr, loc := loc, M := M, ds := ds } x = .func f cap)
    (hargs : c.args.toList.map (AS.ev { fr := fr, loc := loc, M := M, ds := ds }) ++ cap = args) (hdst : o.dst = some d) (hcall : ACalls f args M (fun r M' => r = .ret v ∧ M' = M1))
    (hn : noLs args = true) (hv : noL v = true) (hd : Nat.blt d n = true) (k : K { fr := (d, v) :: fr, loc := loc, M := M1, ds := ds }) :
    AOp Try.prog n o K Q { fr := fr, loc := loc, M := M, ds := ds } := by
  refine AOp.call ho hc hx hargs hn hcall (by rw [hdst]; exact hd) ?_ ?_
  · rintro c M' ⟨h1, rfl⟩
    cases h1
    rw [hdst]
    exact ⟨hv, k⟩
  · rintro c M' ⟨h1, _⟩
    cases h1

/-- A call that panics. -/
theorem W.callP {c : Call} {x : Operand} {f : FuncId} {cap args : List CV} {v : CV} {PP : List AObj → Prop} (ho : o.op = .call c) (hc : c.callee = .value x) (hx : AS.ev { fr := fr, loc := loc, M := M, ds := ds } x = .func f cap)
    (hargs : c.args.toList.map (AS.ev { fr := fr, loc := loc, M := M, ds := ds }) ++ cap = args) (hd : dstOk n o.dst = true) (hcall : ACalls f args M (fun r M' => r = .pan v ∧ PP M'))
    (hn : noLs args = true) (hv : noL v = true) (k : ∀ M', PP M' → Q (.pan v) { fr := fr, loc := loc, M := M', ds := ds }) :
    AOp Try.prog n o K Q { fr := fr, loc := loc, M := M, ds := ds } := by
  refine AOp.call ho hc hx hargs hn hcall hd ?_ ?_
  · rintro c M' ⟨h1, _⟩
    cases h1
  · rintro c M' ⟨h1, h2⟩
    cases h1
    exact ⟨hv, k M' h2⟩

theorem W.panic {x : Operand} {c : CV} (ho : o.op = .panic x) (hx : AS.ev { fr := fr, loc := loc, M := M, ds := ds } x = .iface 44 c) (k : Q (.pan (.iface 44 c)) { fr := fr, loc := loc, M := M, ds := ds }) :
    AOp Try.prog n o K Q { fr := fr, loc := loc, M := M, ds := ds } := AOp.panic ho hx k

end

theorem bodyQ.none {fn : Func} {fr : List (Nat × CV)} {loc : List (Nat × AObj)} {M : List AObj} {QQ : ARes → List AObj → Prop} (hr : fn.results = #[]) (hq : QQ (.ret (.tuple [])) M) :
    bodyQ fn QQ .normal { fr := fr, loc := loc, M := M, ds := [] } := ⟨rfl, _, _, ARet.none hr, Freeze.same rfl, hq⟩

theorem bodyQ.pan {fn : Func} {fr : List (Nat × CV)} {loc : List (Nat × AObj)} {M : List AObj} {c : CV} {QQ : ARes → List AObj → Prop} (hn : noL c = true) (hq : QQ (.pan c) M) :
    bodyQ fn QQ (.pan c) { fr := fr, loc := loc, M := M, ds := [] } := ⟨rfl, hn, hq⟩

end Go.Proofs.Ytceocfancfjdjaa
/- Is a slice nil; an append of nothing. No condition. -/
namespace Go.Proofs.Ytceocfancfjdjaa
open Go Go.RowKit

section
variable {n : Nat} {Q : APost} {o : Oper} {K : AS → Prop} {fr : List (Nat × CV)} {loc : List (Nat × AObj)} {M : List AObj} {ds : List CV} {d : Nat}

theorem run_equal_nil (w : World) (a : Option Addr) (l c : Nat) : (Op.equal 22 (.slice a l c) (.slice none 0 0)).run Try.prog w = .ok a.isNone w := by
  have h : Op.equal 22 (.slice a l c) (.slice none 0 0) = Op.equalIn (9999 + 1) 22 (.slice a l c) (.slice none 0 0) := rfl
  rw [h, Op.equalIn, Sem.run_bind, run_underlying Try.underlying22]
  cases a <;> rfl

theorem run_eqNil (w : World) (X Y : Operand) (a : Option Addr) (l c : Nat) : (do eqGuard .eql 22 X Y (.slice a l c) (.slice none 0 0); binOp .eql 22 (.slice a l c) (.slice none 0 0) : Sem Value).run Try.prog w = .ok (.bool a.isNone) w := by
  have h := run_equal_nil w a l c
  simp [eqGuard, binOp, h]

/-- Is a slice of strings nil? Where it is empty, both answers are open. -/
theorem W.eqNil {x : Operand} {row : List CV} {len : Nat} (ho : o.op = .binOp .eql 22 x (.const (.slice none 0 0)) 22) (hx : AS.ev { fr := fr, loc := loc, M := M, ds := ds } x = .islice row len) (hdst : o.dst = some d) (hd : Nat.blt d n = true)
    (kf : K { fr := (d, .bool false) :: fr, loc := loc, M := M, ds := ds }) (kt : row = [] → len = 0 → K { fr := (d, .bool true) :: fr, loc := loc, M := M, ds := ds }) :
    AOp Try.prog n o K Q { fr := fr, loc := loc, M := M, ds := ds } := by
  intro ρ w a hs
  have hxv := hs.ev x
  rw [hx] at hxv
  generalize hvx : a.eval x = vx at hxv
  unfold Oper.wp
  cases hxv with
  | islice0 ad cap =>
    have hr : (execOp a.eval o).run Try.prog w = .ok (.value (.bool ad.isNone)) w := by
      have hc : a.eval (.const (.slice none 0 0)) = .slice none 0 0 := rfl
      simp only [execOp, ho, hvx, hc]
      rw [Sem.run_bind, run_eqNil]
      rfl
    rw [hr]
    cases ad with
    | none =>
      refine ⟨_, ρ, kt rfl rfl, ?_, (Evol.refl ρ _ w).put (some d) (.bool true)⟩
      rw [hdst]
      exact hs.put (d := some d) hd (.bool true)
    | some ad =>
      refine ⟨_, ρ, kf, ?_, (Evol.refl ρ _ w).put (some d) (.bool false)⟩
      rw [hdst]
      exact hs.put (d := some d) hd (.bool false)
  | islice _ _ b off0 cap cur ty fz =>
    have hr : (execOp a.eval o).run Try.prog w = .ok (.value (.bool false)) w := by
      have hc : a.eval (.const (.slice none 0 0)) = .slice none 0 0 := rfl
      simp only [execOp, ho, hvx, hc]
      rw [Sem.run_bind, run_eqNil]
      rfl
    rw [hr]
    refine ⟨_, ρ, kf, ?_, (Evol.refl ρ _ w).put (some d) (.bool false)⟩
    rw [hdst]
    exact hs.put (d := some d) hd (.bool false)

/-- Nothing is appended. -/
theorem W.append0 {t e sz by' len ver : Nat} {x y : Operand} {nm : Nm} {cs : List CV} (ho : o.op = .call { callee := .builtin .append, args := #[x, y], argTypes := #[t, t] })
    (ht : tapp t = some (e, sz, by')) (hx : AS.ev { fr := fr, loc := loc, M := M, ds := ds } x = .mslice nm ver len) (hg : AS.get { fr := fr, loc := loc, M := M, ds := ds } nm = some (.arr ver e sz cs)) (hlen : cs.length = len * sz)
    (hy : AS.ev { fr := fr, loc := loc, M := M, ds := ds } y = .islice [] 0) (hdst : o.dst = some d) (hd : Nat.blt d n = true)
    (k : K { fr := (d, .mslice nm ver len) :: fr, loc := loc, M := M, ds := ds }) : AOp Try.prog n o K Q { fr := fr, loc := loc, M := M, ds := ds } := by
  intro ρ w a hs
  obtain ⟨i, z, _, hu, hi, hiz, hisz, hiby, hzs, hpos, _, _⟩ := tapp_ok ht
  have hxv := hs.ev x
  have hxv0 := hxv
  rw [hx] at hxv
  have hyv := hs.ev y
  rw [hy] at hyv
  obtain ⟨cur, hcur, hfit, hcV, hcs, hcm⟩ := hs.rel.obj _ _ hg
  generalize hva : a.eval x = va at hxv
  cases hxv with
  | mslice _ _ _ hok =>
    have hroom : len ≤ (ρ nm ver).2 := by
      rw [hlen, hcs] at hfit
      exact Nat.le_of_mul_le_mul_right hfit hpos
    have hyy : ∃ ad c, a.eval y = .slice ad 0 c := by
      generalize hvb : a.eval y = vb at hyv
      cases hyv with
      | islice0 ad c => exact ⟨ad, c, rfl⟩
      | islice _ _ b off0 c => exact ⟨_, c, rfl⟩
    obtain ⟨ad, c, hyy⟩ := hyy
    have hrun : (Builtin.append_ #[t, t] o.type #[.slice (some ⟨(ρ nm ver).1, 0, none⟩) len (ρ nm ver).2, .slice ad 0 c]).run Try.prog w = .ok (.slice (some ⟨(ρ nm ver).1, 0, none⟩) len (ρ nm ver).2) w := by
      cases ad <;> simp [Builtin.append_, run_underlying hu, sizeOf, typeInfo, hi, Builtin.lenOf, Builtin.firstCells, hroom, loadCells, loadCellsFrom, storeCells]
    unfold Oper.wp
    rw [appRun ho hva hyy hrun]
    refine ⟨_, ρ, k, ?_, (Evol.refl ρ _ w).put (some d) (.mslice nm ver len)⟩
    rw [hdst]
    exact hs.put (d := some d) hd (.mslice nm ver len hok)

end
theorem bodyQ.cell {fn : Func} {fr : List (Nat × CV)} {loc : List (Nat × AObj)} {M : List AObj} {t ty : Nat} {c c' : CV} {QQ : ARes → List AObj → Prop} (hr : fn.results = #[.cell t ty])
    (hl : headO (pstep { fr := fr, loc := loc, M := M, ds := [] } (.load ty (.tmp t))) = some c) (hf : Freeze { fr := fr, loc := loc, M := M, ds := [] } c c') (hq : QQ (.ret c') M) :
    bodyQ fn QQ .ret { fr := fr, loc := loc, M := M, ds := [] } := by
  rw [headO_eq] at hl
  exact ⟨rfl, _, _, ARet.cell hr hl, hf, hq⟩

theorem Freeze.agg7 {s : AS} {a b c d e f g a' b' c' d' e' f' g' : CV} (h1 : Freeze s a a') (h2 : Freeze s b b') (h3 : Freeze s c c') (h4 : Freeze s d d') (h5 : Freeze s e e') (h6 : Freeze s f f') (h7 : Freeze s g g') :
    Freeze s (.agg [a, b, c, d, e, f, g]) (.agg [a', b', c', d', e', f', g']) := Freeze.agg ⟨h1, h2, h3, h4, h5, h6, h7, trivial⟩

theorem bodyQ.oneF {fn : Func} {fr : List (Nat × CV)} {loc : List (Nat × AObj)} {M : List AObj} {t : Nat} {c c' : CV} {QQ : ARes → List AObj → Prop} (hr : fn.results = #[.tmp t])
    (hc : headO (some ((look fr t).getD .undef)) = some c) (hf : Freeze { fr := fr, loc := loc, M := M, ds := [] } c c') (hq : QQ (.ret c') M) :
    bodyQ fn QQ .ret { fr := fr, loc := loc, M := M, ds := [] } := by
  rw [headO_eq] at hc
  cases hc
  exact ⟨rfl, _, _, ARet.one hr, hf, hq⟩

section
variable {n : Nat} {Q : APost} {o : Oper} {K : AS → Prop} {fr : List (Nat × CV)} {loc : List (Nat × AObj)} {M : List AObj} {ds : List CV} {d : Nat}

theorem W.buildSliceL {t e sz by' len : Nat} {ps : Array (Nat × Operand)} {zc cs' : List CV} (ho : o.op = .buildSlice t len ps) (hdst : o.dst = some d) (ht : tapp t = some (e, sz, by')) (hz : tzero e = some zc)
    (hfl : flats (parts { fr := fr, loc := loc, M := M, ds := ds } ps) = true) (hlen : Nat.ble (len * sz) 16777216 = true)
    (hfill : fillC (fun i => some (i * sz, sz)) (zrow zc len) (parts { fr := fr, loc := loc, M := M, ds := ds } ps) = some cs') (hnew : look loc d = none)
    (hd : Nat.blt d n = true) (k : K { fr := (d, .mslice (.l d) 0 len) :: fr, loc := (d, .arr 0 e sz cs') :: loc, M := M, ds := ds }) : AOp Try.prog n o K Q { fr := fr, loc := loc, M := M, ds := ds } :=
  AOp.buildSliceL ho hdst ht hz hfl hlen hfill hnew hd k

/-- 'append' to a row of this frame's own. -/
theorem W.appendL {t e sz by' len m ver l len2 : Nat} {x y : Operand} {cs ys cs2 : List CV} (ho : o.op = .call { callee := .builtin .append, args := #[x, y], argTypes := #[t, t] })
    (ht : tapp t = some (e, sz, by')) (hx : AS.ev { fr := fr, loc := loc, M := M, ds := ds } x = .mslice (.l l) ver len) (hg : look loc l = some (.arr ver e sz cs)) (hlen : cs.length = len * sz)
    (hy : AS.ev { fr := fr, loc := loc, M := M, ds := ds } y = .islice ys m) (hys : ys.length = m * sz) (h1 : ones ys = true) (hm : 0 < m) (hb : (len + m) * by' ≤ 140737488355328) (hm63 : len + m ≤ 9223372036854775807)
    (hcs2 : cs ++ ys = cs2) (hlen2 : len + m = len2) (hdst : o.dst = some d) (hd : Nat.blt d n = true)
    (k : K { fr := (d, .mslice (.l l) (ver + 1) len2) :: fr, loc := (l, .arr (ver + 1) e sz cs2) :: loc, M := M, ds := ds }) : AOp Try.prog n o K Q { fr := fr, loc := loc, M := M, ds := ds } := by
  subst hcs2; subst hlen2
  exact AOp.append ho ht hx hg hlen hy hys h1 rfl hm hb hm63 (by rw [hdst]; exact hd) (by rw [hdst]; exact k)

/-- 'append' to what is not there yet. -/
theorem W.appendNilL {t e sz by' m : Nat} {x y : Operand} {ys : List CV} (ho : o.op = .call { callee := .builtin .append, args := #[x, y], argTypes := #[t, t] })
    (ht : tapp t = some (e, sz, by')) (hx : AS.ev { fr := fr, loc := loc, M := M, ds := ds } x = .nilslice) (hy : AS.ev { fr := fr, loc := loc, M := M, ds := ds } y = .islice ys m) (hys : ys.length = m * sz) (hm : 0 < m)
    (hb : m * by' ≤ 140737488355328) (hm63 : m ≤ 9223372036854775807) (hdst : o.dst = some d) (hnew : look loc d = none) (hd : Nat.blt d n = true)
    (k : K { fr := (d, .mslice (.l d) 0 m) :: fr, loc := (d, .arr 0 e sz ys) :: loc, M := M, ds := ds }) : AOp Try.prog n o K Q { fr := fr, loc := loc, M := M, ds := ds } :=
  AOp.appendNil (nm := .l d) (s' := AS.addL { fr := fr, loc := loc, M := M, ds := ds } d (.arr 0 e sz ys)) ho ht hx hy hys hm hb hm63 hnew (getL _ d _) rfl rfl rfl (by rw [hdst]; exact hd) (by rw [hdst]; exact k)

end
end Go.Proofs.Ytceocfancfjdjaa
/- A frame drops what is its alone, but for one row. No condition. -/
namespace Go.Proofs.Ytceocfancfjdjaa
open Go Go.RowKit

section
variable {ρ : Rho} {s s' : AS} {w : World}

theorem VS.dropTo (hg : ∀ i, s'.get (.g i) = s.get (.g i)) (hO : ∀ b, OwnF ρ s' b → OwnF ρ s b) {c : CV} {v : Value} (hv : VS ρ s w c v) (hn : noL c = true) : VS ρ s' w c v := by
  refine V.drop hv hn (fun i k hk => ⟨?_, rfl⟩) (fun b _ hb => ⟨rfl, fun h => hb (hO b h)⟩)
  obtain ⟨x, hx, hle⟩ := hk
  exact ⟨x, (hg i).trans hx, hle⟩

theorem RObj.dropTo (hg : ∀ i, s'.get (.g i) = s.get (.g i)) (hO : ∀ b, OwnF ρ s' b → OwnF ρ s b) {o : Nm} {x : AObj} (h : RObj ρ s w o x) (hn : x.noL = true) : RObj ρ s' w o x := by
  cases x with
  | box cs =>
    obtain ⟨cur, e, hb, hV⟩ := h
    exact ⟨cur, e, hb, hV.1, fun j c v hc hv => VS.dropTo hg hO (hV.2 j c v hc hv) (noLs_get hn hc)⟩
  | arr ver e sz cs =>
    obtain ⟨cur, hb, hl, hV, hcap⟩ := h
    exact ⟨cur, hb, hl, ⟨hV.1, fun j c v hc hv => VS.dropTo hg hO (hV.2 j c v hc hv) (noLs_get hn hc)⟩, hcap⟩
  | map es => exact h

end

section
variable {n : Nat} {ρ : Rho} {fr' : List (Nat × CV)} {loc : List (Nat × AObj)} {M : List AObj} {w : World} {a : Act} {t0 v sz d len : Nat} {e : TypeId} {cs : List CV}

theorem own_keep (hl : look loc t0 = some (.arr v e sz cs)) {fr : List (Nat × CV)} {b : Nat} (h : Own ρ { fr := fr', loc := [(t0, .arr v e sz cs)], M := M, ds := [] } b) : Own ρ { fr := fr, loc := loc, M := M, ds := [] } b := by
  obtain ⟨o, x, hx, hb⟩ := h
  cases o with
  | l t =>
    simp only [AS.get, look_cons] at hx
    split at hx
    · rename_i ht
      subst ht
      cases hx
      exact ⟨.l t0, _, hl, hb⟩
    · simp [look] at hx
  | g i => exact ⟨.g i, x, hx, hb⟩

theorem Sim.forgetA (hs : Sim n ρ { fr := (d, .mslice (.l t0) v len) :: fr', loc := loc, M := M, ds := [] } w a) (hn : noLfr fr' = true) (hl : look loc t0 = some (.arr v e sz cs)) (hp : pures cs = true) :
    Sim n ρ { fr := (d, .mslice (.l t0) v len) :: fr', loc := [(t0, .arr v e sz cs)], M := M, ds := [] } w a := by
  have hO : ∀ b, OwnF ρ { fr := (d, .mslice (.l t0) v len) :: fr', loc := [(t0, .arr v e sz cs)], M := M, ds := [] } b → OwnF ρ { fr := (d, .mslice (.l t0) v len) :: fr', loc := loc, M := M, ds := [] } b :=
    fun b h => h.imp (own_keep hl) id
  have hg : ∀ i, AS.get { fr := (d, .mslice (.l t0) v len) :: fr', loc := [(t0, .arr v e sz cs)], M := M, ds := [] } (.g i) = AS.get { fr := (d, .mslice (.l t0) v len) :: fr', loc := loc, M := M, ds := [] } (.g i) := fun _ => rfl
  have hget : ∀ o x, AS.get { fr := (d, .mslice (.l t0) v len) :: fr', loc := [(t0, .arr v e sz cs)], M := M, ds := [] } o = some x → AS.get { fr := (d, .mslice (.l t0) v len) :: fr', loc := loc, M := M, ds := [] } o = some x ∧ (∀ t, o = .l t → t = t0 ∧ x = .arr v e sz cs) := by
    intro o x hx
    cases o with
    | l t =>
      simp only [AS.get, look_cons] at hx
      split at hx
      · rename_i ht
        subst ht
        cases hx
        exact ⟨hl, fun t' e' => by cases e'; exact ⟨rfl, rfl⟩⟩
      · simp [look] at hx
    | g i => exact ⟨hx, fun t e' => by cases e'⟩
  refine ⟨⟨fun o x hx => ?_, fun o o' x x' hx hx' he => hs.rel.inj o o' x x' (hget o x hx).1 (hget o' x' hx').1 he, hs.rel.fb, fun b hb hown => hs.rel.fo b hb (own_keep hl hown), fun i x hx => hs.rel.gl i x hx⟩, hs.size, fun t => ?_, hs.defs.1, fun j c d hc _ => by simp at hc⟩
  · obtain ⟨h1, h2⟩ := hget o x hx
    cases o with
    | l t =>
      obtain ⟨rfl, rfl⟩ := h2 t rfl
      exact RObj.dropTo hg hO (hs.rel.obj _ _ h1) (pures_noL cs hp)
    | g i => exact RObj.dropTo hg hO (hs.rel.obj _ _ h1) (hs.rel.gl i x h1)
  · have ht := hs.tmp t
    simp only [AS.tmp, look_cons] at ht ⊢
    split at ht
    · rename_i hd
      rw [if_pos hd]
      simp only [Option.getD_some] at ht ⊢
      generalize a.tmps.getD t undef = q at ht
      cases ht
      exact V.mslice (.l t0) v len ⟨.arr v e sz cs, by simp [AS.get, look_cons], Nat.le_refl _⟩
    · rename_i hd
      rw [if_neg hd]
      exact VS.dropTo hg hO ht (noLfr_tmp hn t)

theorem Evol.forgetA {ρ' : Rho} {fr : List (Nat × CV)} {w' : World} {s' : AS} (hl : look loc t0 = some (.arr v e sz cs)) (h : Evol ρ { fr := fr', loc := [(t0, .arr v e sz cs)], M := M, ds := [] } w ρ' s' w') :
    Evol ρ { fr := fr, loc := loc, M := M, ds := [] } w ρ' s' w' :=
  ⟨h.F, h.os, h.tape, h.output, h.size, fun b hb hO => h.frame b hb (fun h1 => hO (own_keep hl h1)), fun b hb => (h.own b hb).imp (own_keep hl) id, fun i k ⟨x, hx, hle⟩ => h.names i k ⟨x, hx, hle⟩⟩

theorem AWpL.freshA {P : Program} {c : Code} {Q : APost} {fr : List (Nat × CV)} (h : Sub fr ((d, .mslice (.l t0) v len) :: fr')) (hn : noLfr fr' = true) (hl : look loc t0 = some (.arr v e sz cs)) (hp : pures cs = true)
    (k : AWpL P n c Q { fr := (d, .mslice (.l t0) v len) :: fr', loc := [(t0, .arr v e sz cs)], M := M, ds := [] }) : AWpL P n c Q { fr := fr, loc := loc, M := M, ds := [] } := by
  refine AWpL.mask h ?_
  intro ρ w a hs b kk cs'
  obtain ⟨e, a', w', ⟨ae, s', ρ', h1, h2, h3, h4⟩, harr⟩ := k ρ w a (hs.forgetA hn hl hp) b kk cs'
  exact ⟨e, a', w', ⟨ae, s', ρ', h1, h2, h3, h4.forgetA hl⟩, harr⟩

end
/-- A call that answers v, and leaves some blocks of which PP is known. -/
theorem W.callM {n : Nat} {Q : APost} {o : Oper} {K : AS → Prop} {fr : List (Nat × CV)} {loc : List (Nat × AObj)} {M : List AObj} {ds : List CV} {d : Nat}
    {c : Call} {x : Operand} {f : FuncId} {cap args : List CV} {v : CV} {PP : List AObj → Prop} (ho : o.op = .call c) (hc : c.callee = .value x) (hx : AS.ev { fr := fr, loc := loc, M := M, ds := ds } x = .func f cap)
    (hargs : c.args.toList.map (AS.ev { fr := fr, loc := loc, M := M, ds := ds }) ++ cap = args) (hdst : o.dst = some d) (hcall : ACalls f args M (fun r M' => r = .ret v ∧ PP M'))
    (hn : noLs args = true) (hv : noL v = true) (hd : Nat.blt d n = true) (k : ∀ M', PP M' → K { fr := (d, v) :: fr, loc := loc, M := M', ds := ds }) :
    AOp Try.prog n o K Q { fr := fr, loc := loc, M := M, ds := ds } := by
  refine AOp.call ho hc hx hargs hn hcall (by rw [hdst]; exact hd) ?_ ?_
  · rintro c M' ⟨h1, h2⟩
    cases h1
    rw [hdst]
    exact ⟨hv, k M' h2⟩
  · rintro c M' ⟨h1, _⟩
    cases h1

end Go.Proofs.Ytceocfancfjdjaa
/- Rules for blocks that many frames know: stores, indexes, lengths. No condition. -/
namespace Go.Proofs.Ytceocfancfjdjaa
open Go Go.RowKit

section
variable {n : Nat} {Q : APost} {o : Oper} {K : AS → Prop} {fr : List (Nat × CV)} {loc : List (Nat × AObj)} {M : List AObj} {ds : List CV} {d : Nat}

theorem W.storeG {t : TypeId} {p x : Operand} {i off k : Nat} {b : Bool} {cs ys cs' : List CV} (ho : o.op = .store t p x) (hdst : o.dst = none)
    (hp : AS.ev { fr := fr, loc := loc, M := M, ds := ds } p = .ptr (.g i) 0 off) (hg : M[i]? = some (.box cs)) (htk : tk t = some (b, k))
    (hys : (AS.ev { fr := fr, loc := loc, M := M, ds := ds } x).cells = ys) (hf : flat (AS.ev { fr := fr, loc := loc, M := M, ds := ds } x) = true) (hk : ys.length = k) (hset : setK cs off ys = some cs')
    (hgl : noLs cs' = true) (kk : K { fr := fr, loc := loc, M := M.set i (.box cs'), ds := ds }) : AOp Try.prog n o K Q { fr := fr, loc := loc, M := M, ds := ds } :=
  AOp.store ho hdst hp hg htk hys hf hk hset hgl kk

theorem W.storeGA {t : TypeId} {p x : Operand} {i ver off k sz : Nat} {e : TypeId} {b : Bool} {cs ys cs' : List CV} (ho : o.op = .store t p x) (hdst : o.dst = none)
    (hp : AS.ev { fr := fr, loc := loc, M := M, ds := ds } p = .ptr (.g i) ver off) (hg : M[i]? = some (.arr ver e sz cs)) (htk : tk t = some (b, k))
    (hys : (AS.ev { fr := fr, loc := loc, M := M, ds := ds } x).cells = ys) (hf : flat (AS.ev { fr := fr, loc := loc, M := M, ds := ds } x) = true) (hk : ys.length = k) (hset : setK cs off ys = some cs')
    (hgl : noLs cs' = true) (kk : K { fr := fr, loc := loc, M := M.set i (.arr ver e sz cs'), ds := ds }) : AOp Try.prog n o K Q { fr := fr, loc := loc, M := M, ds := ds } :=
  AOp.storeA ho hdst hp hg htk hys hf hk hset hgl kk

/-- An operation that reads; the head of what it gives may stand open. -/
theorem W.pureR {c : CV} (hdst : o.dst = some d) (h : pstep { fr := fr, loc := loc, M := M, ds := ds } o.op = some c) (hd : Nat.blt d n = true)
    (k : K { fr := (d, c) :: fr, loc := loc, M := M, ds := ds }) : AOp Try.prog n o K Q { fr := fr, loc := loc, M := M, ds := ds } :=
  AOp.pure h (by rw [hdst]; exact hd) (by rw [hdst]; exact k)

/-- An element's place in a row that can turn. -/
theorem W.indexM {t z len ver : Nat} {x i : Operand} {nm : Nm} {j : Int} (ho : o.op = .indexAddr t x i) (ht : tel t = some z)
    (hx : AS.ev { fr := fr, loc := loc, M := M, ds := ds } x = .mslice nm ver len) (hi : AS.ev { fr := fr, loc := loc, M := M, ds := ds } i = .int .i64 j) (hdst : o.dst = some d) (hd : Nat.blt d n = true)
    (h0 : 0 ≤ j) (h1 : j < (len : Int)) (k : K { fr := (d, .ptr nm ver (j.toNat * z)) :: fr, loc := loc, M := M, ds := ds }) :
    AOp Try.prog n o K Q { fr := fr, loc := loc, M := M, ds := ds } := by
  refine AOp.pure (c := .ptr nm ver (j.toNat * z)) ?_ (by rw [hdst]; exact hd) (by rw [hdst]; exact k)
  rw [ho]
  simp only [pstep, ht, hx, hi]
  rw [if_pos ⟨h0, h1⟩]

end

section
variable {n : Nat} {ops : List Oper} {effs : List Nat} {Q : APost} {ds : List CV} {cnt i d : Nat} {o : Oper} {rest : List Oper} {fr : List (Nat × CV)} {loc : List (Nat × AObj)} {M : List AObj}

theorem D.lenMap {x : Operand} {mi : Nat} {es : List (ByteArray × Int)} (hw : Wants ops fr o) (hor : ordAll ops effs i = true) (ho : o.op = .call { callee := .builtin .len, args := #[x], argTypes := #[48] })
    (hx : evF fr x = .map (.g mi)) (hg : M[mi]? = some (.map es)) (hdst : o.dst = some d) (hd : Nat.blt d n = true)
    (k : DOps n ops effs Q ds cnt (i + 1) rest ((d, .int .i64 (es.length : Int)) :: fr) loc M) : DOps n ops effs Q ds (cnt + 1) i (o :: rest) fr loc M := by
  refine D.valO (c := .int .i64 (es.length : Int)) hw hor hdst ?_ hd k
  have hx' : AS.ev { fr := fr, loc := loc, M := M, ds := [] } x = .map (.g mi) := hx ▸ ev_congr fun _ _ => rfl
  rw [headO_eq, ho]
  simp only [pstep, callStep, lenOf, tlen, hx', AS.get, hg]

/-- 'append' to a row that many frames know. -/
theorem D.appendG {t e sz by' len m ver gi len2 : Nat} {x y : Operand} {cs ys cs2 : List CV} (hw : Wants ops fr o) (hor : ordAll ops effs i = true) (hm : effs.contains i = true)
    (ho : o.op = .call { callee := .builtin .append, args := #[x, y], argTypes := #[t, t] })
    (ht : tapp t = some (e, sz, by')) (hx : evF fr x = .mslice (.g gi) ver len) (hg : M[gi]? = some (.arr ver e sz cs)) (hlen : cs.length = len * sz) (hy : evF fr y = .islice ys m) (hys : ys.length = m * sz)
    (h1 : ones ys = true) (hcs2 : cs ++ ys = cs2) (hlen2 : len + m = len2) (hgl : noLs cs2 = true) (hm0 : 0 < m) (hb : (len + m) * by' ≤ 140737488355328) (hm63 : len + m ≤ 9223372036854775807)
    (hdst : o.dst = some d) (hd : Nat.blt d n = true)
    (k : DOps n ops effs Q ds cnt (i + 1) rest ((d, .mslice (.g gi) (ver + 1) len2) :: fr) loc (M.set gi (.arr (ver + 1) e sz cs2))) : DOps n ops effs Q ds (cnt + 1) i (o :: rest) fr loc M := by
  subst hcs2; subst hlen2
  exact D.append hw hor hm ho ht hx hg hlen hy hys h1 hgl hm0 hb hm63 hdst hd k

theorem D.storeG {t : TypeId} {p x : Operand} {gi off k : Nat} {b : Bool} {cs ys cs' : List CV} (hw : Wants ops fr o) (hor : ordAll ops effs i = true) (hm : effs.contains i = true) (ho : o.op = .store t p x) (hdst : o.dst = none)
    (hp : evF fr p = .ptr (.g gi) 0 off) (hg : M[gi]? = some (.box cs)) (htk : tk t = some (b, k))
    (hys : (evF fr x).cells = ys) (hf : flat (evF fr x) = true) (hk : ys.length = k) (hset : setK cs off ys = some cs') (hgl : noLs cs' = true)
    (kk : DOps n ops effs Q ds cnt (i + 1) rest fr loc (M.set gi (.box cs'))) : DOps n ops effs Q ds (cnt + 1) i (o :: rest) fr loc M :=
  D.store hw hor hm ho hdst hp hg htk hys hf hk hset hgl kk

end
end Go.Proofs.Ytceocfancfjdjaa
