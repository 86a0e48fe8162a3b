/- A frame drops what is its alone, but for one row. No condition. -/
import Derived.Test.YtceocfancfjdjaaScY
namespace Go.Proofs.Ytceocfancfjdjaa
open Go Go.RowKit

section
variable {ρ : Rho} {s s' : AS} {w : World}

theorem VS.dropTo (hg : ∀ i, s'.get (.g i) = s.get (.g i)) (hO : ∀ b, OwnF ρ s' b → OwnF ρ s b) {c : CV} {v : Value} (hv : VS ρ s w c v) (hn : noL c = true) : VS ρ s' w c v := by
  refine V.drop hv hn (fun i k hk => ⟨?_, rfl⟩) (fun b _ hb => ⟨rfl, fun h => hb (hO b h)⟩)
  obtain ⟨x, hx, hle⟩ := hk
  exact ⟨x, (hg i).trans hx, hle⟩

theorem RObj.dropTo (hg : ∀ i, s'.get (.g i) = s.get (.g i)) (hO : ∀ b, OwnF ρ s' b → OwnF ρ s b) {o : Nm} {x : AObj} (h : RObj ρ s w o x) (hn : x.noL = true) : RObj ρ s' w o x := by
  cases x with
  | box cs =>
    obtain ⟨cur, e, hb, hV⟩ := h
    exact ⟨cur, e, hb, hV.1, fun j c v hc hv => VS.dropTo hg hO (hV.2 j c v hc hv) (noLs_get hn hc)⟩
  | arr ver e sz cs =>
    obtain ⟨cur, hb, hl, hV, hcap⟩ := h
    exact ⟨cur, hb, hl, ⟨hV.1, fun j c v hc hv => VS.dropTo hg hO (hV.2 j c v hc hv) (noLs_get hn hc)⟩, hcap⟩
  | map es => exact h

end

section
variable {n : Nat} {ρ : Rho} {fr' : List (Nat × CV)} {loc : List (Nat × AObj)} {M : List AObj} {w : World} {a : Act} {t0 v sz d len : Nat} {e : TypeId} {cs : List CV}

theorem own_keep (hl : look loc t0 = some (.arr v e sz cs)) {fr : List (Nat × CV)} {b : Nat} (h : Own ρ { fr := fr', loc := [(t0, .arr v e sz cs)], M := M, ds := [] } b) : Own ρ { fr := fr, loc := loc, M := M, ds := [] } b := by
  obtain ⟨o, x, hx, hb⟩ := h
  cases o with
  | l t =>
    simp only [AS.get, look_cons] at hx
    split at hx
    · rename_i ht
      subst ht
      cases hx
      exact ⟨.l t0, _, hl, hb⟩
    · simp [look] at hx
  | g i => exact ⟨.g i, x, hx, hb⟩

theorem Sim.forgetA (hs : Sim n ρ { fr := (d, .mslice (.l t0) v len) :: fr', loc := loc, M := M, ds := [] } w a) (hn : noLfr fr' = true) (hl : look loc t0 = some (.arr v e sz cs)) (hp : pures cs = true) :
    Sim n ρ { fr := (d, .mslice (.l t0) v len) :: fr', loc := [(t0, .arr v e sz cs)], M := M, ds := [] } w a := by
  have hO : ∀ b, OwnF ρ { fr := (d, .mslice (.l t0) v len) :: fr', loc := [(t0, .arr v e sz cs)], M := M, ds := [] } b → OwnF ρ { fr := (d, .mslice (.l t0) v len) :: fr', loc := loc, M := M, ds := [] } b :=
    fun b h => h.imp (own_keep hl) id
  have hg : ∀ i, AS.get { fr := (d, .mslice (.l t0) v len) :: fr', loc := [(t0, .arr v e sz cs)], M := M, ds := [] } (.g i) = AS.get { fr := (d, .mslice (.l t0) v len) :: fr', loc := loc, M := M, ds := [] } (.g i) := fun _ => rfl
  have hget : ∀ o x, AS.get { fr := (d, .mslice (.l t0) v len) :: fr', loc := [(t0, .arr v e sz cs)], M := M, ds := [] } o = some x → AS.get { fr := (d, .mslice (.l t0) v len) :: fr', loc := loc, M := M, ds := [] } o = some x ∧ (∀ t, o = .l t → t = t0 ∧ x = .arr v e sz cs) := by
    intro o x hx
    cases o with
    | l t =>
      simp only [AS.get, look_cons] at hx
      split at hx
      · rename_i ht
        subst ht
        cases hx
        exact ⟨hl, fun t' e' => by cases e'; exact ⟨rfl, rfl⟩⟩
      · simp [look] at hx
    | g i => exact ⟨hx, fun t e' => by cases e'⟩
  refine ⟨⟨fun o x hx => ?_, fun o o' x x' hx hx' he => hs.rel.inj o o' x x' (hget o x hx).1 (hget o' x' hx').1 he, hs.rel.fb, fun b hb hown => hs.rel.fo b hb (own_keep hl hown), fun i x hx => hs.rel.gl i x hx⟩, hs.size, fun t => ?_, hs.defs.1, fun j c d hc _ => by simp at hc⟩
  · obtain ⟨h1, h2⟩ := hget o x hx
    cases o with
    | l t =>
      obtain ⟨rfl, rfl⟩ := h2 t rfl
      exact RObj.dropTo hg hO (hs.rel.obj _ _ h1) (pures_noL cs hp)
    | g i => exact RObj.dropTo hg hO (hs.rel.obj _ _ h1) (hs.rel.gl i x h1)
  · have ht := hs.tmp t
    simp only [AS.tmp, look_cons] at ht ⊢
    split at ht
    · rename_i hd
      rw [if_pos hd]
      simp only [Option.getD_some] at ht ⊢
      generalize a.tmps.getD t undef = q at ht
      cases ht
      exact V.mslice (.l t0) v len ⟨.arr v e sz cs, by simp [AS.get, look_cons], Nat.le_refl _⟩
    · rename_i hd
      rw [if_neg hd]
      exact VS.dropTo hg hO ht (noLfr_tmp hn t)

theorem Evol.forgetA {ρ' : Rho} {fr : List (Nat × CV)} {w' : World} {s' : AS} (hl : look loc t0 = some (.arr v e sz cs)) (h : Evol ρ { fr := fr', loc := [(t0, .arr v e sz cs)], M := M, ds := [] } w ρ' s' w') :
    Evol ρ { fr := fr, loc := loc, M := M, ds := [] } w ρ' s' w' :=
  ⟨h.F, h.os, h.tape, h.output, h.size, fun b hb hO => h.frame b hb (fun h1 => hO (own_keep hl h1)), fun b hb => (h.own b hb).imp (own_keep hl) id, fun i k ⟨x, hx, hle⟩ => h.names i k ⟨x, hx, hle⟩⟩

theorem AWpL.freshA {P : Program} {c : Code} {Q : APost} {fr : List (Nat × CV)} (h : Sub fr ((d, .mslice (.l t0) v len) :: fr')) (hn : noLfr fr' = true) (hl : look loc t0 = some (.arr v e sz cs)) (hp : pures cs = true)
    (k : AWpL P n c Q { fr := (d, .mslice (.l t0) v len) :: fr', loc := [(t0, .arr v e sz cs)], M := M, ds := [] }) : AWpL P n c Q { fr := fr, loc := loc, M := M, ds := [] } := by
  refine AWpL.mask h ?_
  intro ρ w a hs b kk cs'
  obtain ⟨e, a', w', ⟨ae, s', ρ', h1, h2, h3, h4⟩, harr⟩ := k ρ w a (hs.forgetA hn hl hp) b kk cs'
  exact ⟨e, a', w', ⟨ae, s', ρ', h1, h2, h3, h4.forgetA hl⟩, harr⟩

end
/-- A call that answers v, and leaves some blocks of which PP is known. -/
theorem W.callM {n : Nat} {Q : APost} {o : Oper} {K : AS → Prop} {fr : List (Nat × CV)} {loc : List (Nat × AObj)} {M : List AObj} {ds : List CV} {d : Nat}
    {c : Call} {x : Operand} {f : FuncId} {cap args : List CV} {v : CV} {PP : List AObj → Prop} (ho : o.op = .call c) (hc : c.callee = .value x) (hx : AS.ev { fr := fr, loc := loc, M := M, ds := ds } x = .func f cap)
    (hargs : c.args.toList.map (AS.ev { fr := fr, loc := loc, M := M, ds := ds }) ++ cap = args) (hdst : o.dst = some d) (hcall : ACalls f args M (fun r M' => r = .ret v ∧ PP M'))
    (hn : noLs args = true) (hv : noL v = true) (hd : Nat.blt d n = true) (k : ∀ M', PP M' → K { fr := (d, v) :: fr, loc := loc, M := M', ds := ds }) :
    AOp Try.prog n o K Q { fr := fr, loc := loc, M := M, ds := ds } := by
  refine AOp.call ho hc hx hargs hn hcall (by rw [hdst]; exact hd) ?_ ?_
  · rintro c M' ⟨h1, h2⟩
    cases h1
    rw [hdst]
    exact ⟨hv, k M' h2⟩
  · rintro c M' ⟨h1, _⟩
    cases h1

end Go.Proofs.Ytceocfancfjdjaa
