/- Is a slice nil; an append of nothing. No condition. -/
import Derived.Test.YtceocfancfjdjaaScZ
namespace Go.Proofs.Ytceocfancfjdjaa
open Go Go.RowKit

section
variable {n : Nat} {Q : APost} {o : Oper} {K : AS → Prop} {fr : List (Nat × CV)} {loc : List (Nat × AObj)} {M : List AObj} {ds : List CV} {d : Nat}

theorem run_equal_nil (w : World) (a : Option Addr) (l c : Nat) : (Op.equal 22 (.slice a l c) (.slice none 0 0)).run Try.prog w = .ok a.isNone w := by
  have h : Op.equal 22 (.slice a l c) (.slice none 0 0) = Op.equalIn (9999 + 1) 22 (.slice a l c) (.slice none 0 0) := rfl
  rw [h, Op.equalIn, Sem.run_bind, run_underlying Try.underlying22]
  cases a <;> rfl

theorem run_eqNil (w : World) (X Y : Operand) (a : Option Addr) (l c : Nat) : (do eqGuard .eql 22 X Y (.slice a l c) (.slice none 0 0); binOp .eql 22 (.slice a l c) (.slice none 0 0) : Sem Value).run Try.prog w = .ok (.bool a.isNone) w := by
  have h := run_equal_nil w a l c
  simp [eqGuard, binOp, h]

/-- Is a slice of strings nil? Where it is empty, both answers are open. -/
theorem W.eqNil {x : Operand} {row : List CV} {len : Nat} (ho : o.op = .binOp .eql 22 x (.const (.slice none 0 0)) 22) (hx : AS.ev { fr := fr, loc := loc, M := M, ds := ds } x = .islice row len) (hdst : o.dst = some d) (hd : Nat.blt d n = true)
    (kf : K { fr := (d, .bool false) :: fr, loc := loc, M := M, ds := ds }) (kt : row = [] → len = 0 → K { fr := (d, .bool true) :: fr, loc := loc, M := M, ds := ds }) :
    AOp Try.prog n o K Q { fr := fr, loc := loc, M := M, ds := ds } := by
  intro ρ w a hs
  have hxv := hs.ev x
  rw [hx] at hxv
  generalize hvx : a.eval x = vx at hxv
  unfold Oper.wp
  cases hxv with
  | islice0 ad cap =>
    have hr : (execOp a.eval o).run Try.prog w = .ok (.value (.bool ad.isNone)) w := by
      have hc : a.eval (.const (.slice none 0 0)) = .slice none 0 0 := rfl
      simp only [execOp, ho, hvx, hc]
      rw [Sem.run_bind, run_eqNil]
      rfl
    rw [hr]
    cases ad with
    | none =>
      refine ⟨_, ρ, kt rfl rfl, ?_, (Evol.refl ρ _ w).put (some d) (.bool true)⟩
      rw [hdst]
      exact hs.put (d := some d) hd (.bool true)
    | some ad =>
      refine ⟨_, ρ, kf, ?_, (Evol.refl ρ _ w).put (some d) (.bool false)⟩
      rw [hdst]
      exact hs.put (d := some d) hd (.bool false)
  | islice _ _ b off0 cap cur ty fz =>
    have hr : (execOp a.eval o).run Try.prog w = .ok (.value (.bool false)) w := by
      have hc : a.eval (.const (.slice none 0 0)) = .slice none 0 0 := rfl
      simp only [execOp, ho, hvx, hc]
      rw [Sem.run_bind, run_eqNil]
      rfl
    rw [hr]
    refine ⟨_, ρ, kf, ?_, (Evol.refl ρ _ w).put (some d) (.bool false)⟩
    rw [hdst]
    exact hs.put (d := some d) hd (.bool false)

/-- Nothing is appended. -/
theorem W.append0 {t e sz by' len ver : Nat} {x y : Operand} {nm : Nm} {cs : List CV} (ho : o.op = .call { callee := .builtin .append, args := #[x, y], argTypes := #[t, t] })
    (ht : tapp t = some (e, sz, by')) (hx : AS.ev { fr := fr, loc := loc, M := M, ds := ds } x = .mslice nm ver len) (hg : AS.get { fr := fr, loc := loc, M := M, ds := ds } nm = some (.arr ver e sz cs)) (hlen : cs.length = len * sz)
    (hy : AS.ev { fr := fr, loc := loc, M := M, ds := ds } y = .islice [] 0) (hdst : o.dst = some d) (hd : Nat.blt d n = true)
    (k : K { fr := (d, .mslice nm ver len) :: fr, loc := loc, M := M, ds := ds }) : AOp Try.prog n o K Q { fr := fr, loc := loc, M := M, ds := ds } := by
  intro ρ w a hs
  obtain ⟨i, z, _, hu, hi, hiz, hisz, hiby, hzs, hpos, _, _⟩ := tapp_ok ht
  have hxv := hs.ev x
  have hxv0 := hxv
  rw [hx] at hxv
  have hyv := hs.ev y
  rw [hy] at hyv
  obtain ⟨cur, hcur, hfit, hcV, hcs, hcm⟩ := hs.rel.obj _ _ hg
  generalize hva : a.eval x = va at hxv
  cases hxv with
  | mslice _ _ _ hok =>
    have hroom : len ≤ (ρ nm ver).2 := by
      rw [hlen, hcs] at hfit
      exact Nat.le_of_mul_le_mul_right hfit hpos
    have hyy : ∃ ad c, a.eval y = .slice ad 0 c := by
      generalize hvb : a.eval y = vb at hyv
      cases hyv with
      | islice0 ad c => exact ⟨ad, c, rfl⟩
      | islice _ _ b off0 c => exact ⟨_, c, rfl⟩
    obtain ⟨ad, c, hyy⟩ := hyy
    have hrun : (Builtin.append_ #[t, t] o.type #[.slice (some ⟨(ρ nm ver).1, 0, none⟩) len (ρ nm ver).2, .slice ad 0 c]).run Try.prog w = .ok (.slice (some ⟨(ρ nm ver).1, 0, none⟩) len (ρ nm ver).2) w := by
      cases ad <;> simp [Builtin.append_, run_underlying hu, sizeOf, typeInfo, hi, Builtin.lenOf, Builtin.firstCells, hroom, loadCells, loadCellsFrom, storeCells]
    unfold Oper.wp
    rw [appRun ho hva hyy hrun]
    refine ⟨_, ρ, k, ?_, (Evol.refl ρ _ w).put (some d) (.mslice nm ver len)⟩
    rw [hdst]
    exact hs.put (d := some d) hd (.mslice nm ver len hok)

end
theorem bodyQ.cell {fn : Func} {fr : List (Nat × CV)} {loc : List (Nat × AObj)} {M : List AObj} {t ty : Nat} {c c' : CV} {QQ : ARes → List AObj → Prop} (hr : fn.results = #[.cell t ty])
    (hl : headO (pstep { fr := fr, loc := loc, M := M, ds := [] } (.load ty (.tmp t))) = some c) (hf : Freeze { fr := fr, loc := loc, M := M, ds := [] } c c') (hq : QQ (.ret c') M) :
    bodyQ fn QQ .ret { fr := fr, loc := loc, M := M, ds := [] } := by
  rw [headO_eq] at hl
  exact ⟨rfl, _, _, ARet.cell hr hl, hf, hq⟩

theorem Freeze.agg7 {s : AS} {a b c d e f g a' b' c' d' e' f' g' : CV} (h1 : Freeze s a a') (h2 : Freeze s b b') (h3 : Freeze s c c') (h4 : Freeze s d d') (h5 : Freeze s e e') (h6 : Freeze s f f') (h7 : Freeze s g g') :
    Freeze s (.agg [a, b, c, d, e, f, g]) (.agg [a', b', c', d', e', f', g']) := Freeze.agg ⟨h1, h2, h3, h4, h5, h6, h7, trivial⟩

theorem bodyQ.oneF {fn : Func} {fr : List (Nat × CV)} {loc : List (Nat × AObj)} {M : List AObj} {t : Nat} {c c' : CV} {QQ : ARes → List AObj → Prop} (hr : fn.results = #[.tmp t])
    (hc : headO (some ((look fr t).getD .undef)) = some c) (hf : Freeze { fr := fr, loc := loc, M := M, ds := [] } c c') (hq : QQ (.ret c') M) :
    bodyQ fn QQ .ret { fr := fr, loc := loc, M := M, ds := [] } := by
  rw [headO_eq] at hc
  cases hc
  exact ⟨rfl, _, _, ARet.one hr, hf, hq⟩

section
variable {n : Nat} {Q : APost} {o : Oper} {K : AS → Prop} {fr : List (Nat × CV)} {loc : List (Nat × AObj)} {M : List AObj} {ds : List CV} {d : Nat}

theorem W.buildSliceL {t e sz by' len : Nat} {ps : Array (Nat × Operand)} {zc cs' : List CV} (ho : o.op = .buildSlice t len ps) (hdst : o.dst = some d) (ht : tapp t = some (e, sz, by')) (hz : tzero e = some zc)
    (hfl : flats (parts { fr := fr, loc := loc, M := M, ds := ds } ps) = true) (hlen : Nat.ble (len * sz) 16777216 = true)
    (hfill : fillC (fun i => some (i * sz, sz)) (zrow zc len) (parts { fr := fr, loc := loc, M := M, ds := ds } ps) = some cs') (hnew : look loc d = none)
    (hd : Nat.blt d n = true) (k : K { fr := (d, .mslice (.l d) 0 len) :: fr, loc := (d, .arr 0 e sz cs') :: loc, M := M, ds := ds }) : AOp Try.prog n o K Q { fr := fr, loc := loc, M := M, ds := ds } :=
  AOp.buildSliceL ho hdst ht hz hfl hlen hfill hnew hd k

/-- 'append' to a row of this frame's own. -/
theorem W.appendL {t e sz by' len m ver l len2 : Nat} {x y : Operand} {cs ys cs2 : List CV} (ho : o.op = .call { callee := .builtin .append, args := #[x, y], argTypes := #[t, t] })
    (ht : tapp t = some (e, sz, by')) (hx : AS.ev { fr := fr, loc := loc, M := M, ds := ds } x = .mslice (.l l) ver len) (hg : look loc l = some (.arr ver e sz cs)) (hlen : cs.length = len * sz)
    (hy : AS.ev { fr := fr, loc := loc, M := M, ds := ds } y = .islice ys m) (hys : ys.length = m * sz) (h1 : ones ys = true) (hm : 0 < m) (hb : (len + m) * by' ≤ 140737488355328) (hm63 : len + m ≤ 9223372036854775807)
    (hcs2 : cs ++ ys = cs2) (hlen2 : len + m = len2) (hdst : o.dst = some d) (hd : Nat.blt d n = true)
    (k : K { fr := (d, .mslice (.l l) (ver + 1) len2) :: fr, loc := (l, .arr (ver + 1) e sz cs2) :: loc, M := M, ds := ds }) : AOp Try.prog n o K Q { fr := fr, loc := loc, M := M, ds := ds } := by
  subst hcs2; subst hlen2
  exact AOp.append ho ht hx hg hlen hy hys h1 rfl hm hb hm63 (by rw [hdst]; exact hd) (by rw [hdst]; exact k)

/-- 'append' to what is not there yet. -/
theorem W.appendNilL {t e sz by' m : Nat} {x y : Operand} {ys : List CV} (ho : o.op = .call { callee := .builtin .append, args := #[x, y], argTypes := #[t, t] })
    (ht : tapp t = some (e, sz, by')) (hx : AS.ev { fr := fr, loc := loc, M := M, ds := ds } x = .nilslice) (hy : AS.ev { fr := fr, loc := loc, M := M, ds := ds } y = .islice ys m) (hys : ys.length = m * sz) (hm : 0 < m)
    (hb : m * by' ≤ 140737488355328) (hm63 : m ≤ 9223372036854775807) (hdst : o.dst = some d) (hnew : look loc d = none) (hd : Nat.blt d n = true)
    (k : K { fr := (d, .mslice (.l d) 0 m) :: fr, loc := (d, .arr 0 e sz ys) :: loc, M := M, ds := ds }) : AOp Try.prog n o K Q { fr := fr, loc := loc, M := M, ds := ds } :=
  AOp.appendNil (nm := .l d) (s' := AS.addL { fr := fr, loc := loc, M := M, ds := ds } d (.arr 0 e sz ys)) ho ht hx hy hys hm hb hm63 hnew (getL _ d _) rfl rfl rfl (by rw [hdst]; exact hd) (by rw [hdst]; exact k)

end
end Go.Proofs.Ytceocfancfjdjaa
