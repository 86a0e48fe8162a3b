/- A frame's own blocks put in order; strings put together; rows of one's own in regions whose order is left open. No condition. -/
import Derived.Test.YtceocfancfjdjaaDef3
namespace Go.Proofs.Ytceocfancfjdjaa
open Go Go.RowKit

/-- Each name once. -/
def dd {α : Type} : List Nat → List (Nat × α) → List (Nat × α)
  | _, [] => []
  | seen, (k, v) :: r => bif seen.contains k then dd seen r else (k, v) :: dd (k :: seen) r

theorem look_dd {α : Type} : ∀ (l : List (Nat × α)) (seen : List Nat) (t : Nat), look (dd seen l) t = if t ∈ seen then none else look l t
  | [], seen, t => by simp [dd, look]
  | (k, v) :: r, seen, t => by
    simp only [dd]
    cases hc : seen.contains k with
    | true =>
      have hk : k ∈ seen := by simpa using hc
      rw [cond_true, look_dd r seen t, look_cons]
      by_cases ht : t ∈ seen
      · simp [ht]
      · have : k ≠ t := fun e => ht (e ▸ hk)
        simp [ht, this]
    | false =>
      have hk : k ∉ seen := by simpa using hc
      rw [cond_false, look_cons, look_dd r (k :: seen) t, look_cons]
      by_cases hkt : k = t
      · subst hkt; simp [hk]
      · by_cases ht : t ∈ seen
        · simp [hkt, ht]
        · have : t ≠ k := fun e => hkt e.symm
          simp [hkt, ht, this]

section
variable {n : Nat} {ρ : Rho} {fr : List (Nat × CV)} {loc loc' : List (Nat × AObj)} {M : List AObj} {ds : List CV} {w : World} {a : Act}

theorem get_relook (h : ∀ t, look loc' t = look loc t) (o : Nm) : AS.get { fr := fr, loc := loc', M := M, ds := ds } o = AS.get { fr := fr, loc := loc, M := M, ds := ds } o := by
  cases o with
  | l t => exact h t
  | g i => rfl

theorem VS.relook (h : ∀ t, look loc' t = look loc t) {c : CV} {v : Value} (hv : VS ρ { fr := fr, loc := loc, M := M, ds := ds } w c v) : VS ρ { fr := fr, loc := loc', M := M, ds := ds } w c v := by
  refine V.mono hv (fun o k ⟨x, hx, hle⟩ => ⟨⟨x, (get_relook h o).trans hx, hle⟩, rfl⟩) (fun b _ hO => ⟨rfl, fun hO' => hO (hO'.imp (fun ⟨o, x, hx, e⟩ => ⟨o, x, (get_relook h o).symm.trans hx, e⟩) id)⟩)

theorem Sim.relook (hs : Sim n ρ { fr := fr, loc := loc, M := M, ds := ds } w a) (h : ∀ t, look loc' t = look loc t) : Sim n ρ { fr := fr, loc := loc', M := M, ds := ds } w a := by
  refine ⟨⟨fun o x hx => ?_, fun o o' x x' hx hx' e => hs.rel.inj o o' x x' ((get_relook h o).symm.trans hx) ((get_relook h o').symm.trans hx') e, hs.rel.fb, fun b hb ⟨o, x, hx, e⟩ => hs.rel.fo b hb ⟨o, x, (get_relook h o).symm.trans hx, e⟩,
    fun i x hx => hs.rel.gl i x hx⟩, hs.size, fun t => VS.relook h (hs.tmp t), hs.defs.1, fun j c d hc hd => ?_⟩
  · have hold := hs.rel.obj o x ((get_relook h o).symm.trans hx)
    cases x with
    | box cs =>
      obtain ⟨cur, e, hb, hV⟩ := hold
      exact ⟨cur, e, hb, hV.1, fun j c v hc hv => VS.relook h (hV.2 j c v hc hv)⟩
    | arr ver e sz cs =>
      obtain ⟨cur, hb, hl, hV, hcap⟩ := hold
      exact ⟨cur, hb, hl, ⟨hV.1, fun j c v hc hv => VS.relook h (hV.2 j c v hc hv)⟩, hcap⟩
    | map es => exact hold
  · obtain ⟨f, cap, vs, h1, h2, h3⟩ := hs.defs.2 j c d hc hd
    exact ⟨f, cap, vs, h1, h2, h3.1, fun j c v hc hv => VS.relook h (h3.2 j c v hc hv)⟩

theorem Evol.relook {ρ' : Rho} {w' : World} {s' : AS} (h : ∀ t, look loc' t = look loc t) (hev : Evol ρ { fr := fr, loc := loc', M := M, ds := ds } w ρ' s' w') : Evol ρ { fr := fr, loc := loc, M := M, ds := ds } w ρ' s' w' := by
  have ho : ∀ b, Own ρ { fr := fr, loc := loc', M := M, ds := ds } b → Own ρ { fr := fr, loc := loc, M := M, ds := ds } b := fun b ⟨o, x, hx, e⟩ => ⟨o, x, (get_relook h o).symm.trans hx, e⟩
  exact ⟨hev.F, hev.os, hev.tape, hev.output, hev.size, fun b hb hO => hev.frame b hb (fun h1 => hO (ho b h1)), fun b hb => (hev.own b hb).imp (ho b) id, fun i k hk => hev.names i k hk⟩

variable {P : Program} {c : Code} {Q : APost}

theorem AWp.relook (h : ∀ t, look loc' t = look loc t) (k : AWp P n c Q { fr := fr, loc := loc', M := M, ds := ds }) : AWp P n c Q { fr := fr, loc := loc, M := M, ds := ds } :=
  fun ρ w a hs => wp_mono (k ρ w a (hs.relook h)) fun _ _ _ ⟨ae, s', ρ', h1, h2, h3, h4⟩ => ⟨ae, s', ρ', h1, h2, h3, h4.relook h⟩

theorem AWpL.relook (h : ∀ t, look loc' t = look loc t) (k : AWpL P n c Q { fr := fr, loc := loc', M := M, ds := ds }) : AWpL P n c Q { fr := fr, loc := loc, M := M, ds := ds } := by
  intro ρ w a hs b kk cs
  obtain ⟨e, a', w', ⟨ae, s', ρ', h1, h2, h3, h4⟩, harr⟩ := k ρ w a (hs.relook h) b kk cs
  exact ⟨e, a', w', ⟨ae, s', ρ', h1, h2, h3, h4.relook h⟩, harr⟩

theorem AWp.tidy {fr' : List (Nat × CV)} (hf : Sub fr fr') (h : dd [] loc = loc') (k : AWp P n c Q { fr := fr', loc := loc', M := M, ds := ds }) : AWp P n c Q { fr := fr, loc := loc, M := M, ds := ds } :=
  AWp.relook (fun t => by rw [← h, look_dd]; simp) (AWp.mask hf k)

theorem AWpL.tidy {fr' : List (Nat × CV)} (hf : Sub fr fr') (h : dd [] loc = loc') (k : AWpL P n c Q { fr := fr', loc := loc', M := M, ds := ds }) : AWpL P n c Q { fr := fr, loc := loc, M := M, ds := ds } :=
  AWpL.relook (fun t => by rw [← h, look_dd]; simp) (AWpL.mask hf k)

end

section
variable {n : Nat} {Q : APost} {o : Oper} {K : AS → Prop} {fr : List (Nat × CV)} {loc : List (Nat × AObj)} {M : List AObj} {ds : List CV} {d : Nat}

/-- Two strings put together. -/
theorem W.concat {x y : Operand} {a b : ByteArray} (ho : o.op = .binOp .add 9 x y 9) (hx : AS.ev { fr := fr, loc := loc, M := M, ds := ds } x = .str a) (hy : AS.ev { fr := fr, loc := loc, M := M, ds := ds } y = .str b) (hdst : o.dst = some d)
    (hd : Nat.blt d n = true) (hsz : a.size + b.size ≤ 4611686018427387904) (k : K { fr := (d, .str (a ++ b)) :: fr, loc := loc, M := M, ds := ds }) : AOp Try.prog n o K Q { fr := fr, loc := loc, M := M, ds := ds } := by
  refine AOp.pure (c := .str (a ++ b)) ?_ (by rw [hdst]; exact hd) (by rw [hdst]; exact k)
  rw [ho]
  simp only [pstep, hx, hy, strOp]
  rw [if_pos hsz]

end

section
variable {n : Nat} {ops : List Oper} {effs : List Nat} {Q : APost} {ds : List CV} {cnt i d : Nat} {o : Oper} {rest : List Oper} {fr : List (Nat × CV)} {loc : List (Nat × AObj)} {M : List AObj}

theorem D.concat {x y : Operand} {a b : ByteArray} (hw : Wants ops fr o) (ho : o.op = .binOp .add 9 x y 9) (hx : evF fr x = .str a) (hy : evF fr y = .str b) (hdst : o.dst = some d)
    (hd : Nat.blt d n = true) (hsz : a.size + b.size ≤ 4611686018427387904) (k : DOps n ops effs Q ds cnt (i + 1) rest ((d, .str (a ++ b)) :: fr) loc M) : DOps n ops effs Q ds (cnt + 1) i (o :: rest) fr loc M := by
  refine D.val (c := .str (a ++ b)) hw hdst ?_ hd k
  have hx' : AS.ev { fr := fr, loc := [], M := [], ds := [] } x = .str a := hx
  have hy' : AS.ev { fr := fr, loc := [], M := [], ds := [] } y = .str b := hy
  rw [headO_eq, ho]
  simp only [pstep, hx', hy', strOp]
  rw [if_pos hsz]

theorem D.appendL {t e sz by' len m ver l len2 : Nat} {x y : Operand} {cs ys cs2 : List CV} (hw : Wants ops fr o) (hor : ordAll ops effs i = true) (hm : effs.contains i = true)
    (ho : o.op = .call { callee := .builtin .append, args := #[x, y], argTypes := #[t, t] })
    (ht : tapp t = some (e, sz, by')) (hx : evF fr x = .mslice (.l l) ver len) (hg : look loc l = some (.arr ver e sz cs)) (hlen : cs.length = len * sz) (hy : evF fr y = .islice ys m) (hys : ys.length = m * sz)
    (h1 : ones ys = true) (hcs2 : cs ++ ys = cs2) (hlen2 : len + m = len2) (hm0 : 0 < m) (hb : (len + m) * by' ≤ 140737488355328) (hm63 : len + m ≤ 9223372036854775807)
    (hdst : o.dst = some d) (hd : Nat.blt d n = true)
    (k : DOps n ops effs Q ds cnt (i + 1) rest ((d, .mslice (.l l) (ver + 1) len2) :: fr) ((l, .arr (ver + 1) e sz cs2) :: loc) M) : DOps n ops effs Q ds (cnt + 1) i (o :: rest) fr loc M := by
  subst hcs2; subst hlen2
  exact D.append hw hor hm ho ht hx hg hlen hy hys h1 rfl hm0 hb hm63 hdst hd k

theorem D.storeL {t : TypeId} {p x : Operand} {l off k : Nat} {b : Bool} {cs ys cs' : List CV} (hw : Wants ops fr o) (hor : ordAll ops effs i = true) (hm : effs.contains i = true) (ho : o.op = .store t p x) (hdst : o.dst = none)
    (hp : evF fr p = .ptr (.l l) 0 off) (hg : look loc l = some (.box cs)) (htk : tk t = some (b, k))
    (hys : (evF fr x).cells = ys) (hf : flat (evF fr x) = true) (hk : ys.length = k) (hset : setK cs off ys = some cs')
    (kk : DOps n ops effs Q ds cnt (i + 1) rest fr ((l, .box cs') :: loc) M) : DOps n ops effs Q ds (cnt + 1) i (o :: rest) fr loc M :=
  D.store hw hor hm ho hdst hp hg htk hys hf hk hset rfl kk

end
end Go.Proofs.Ytceocfancfjdjaa
