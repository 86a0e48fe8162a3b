/- Regions whose order is left open, with variables made in any order ahead of the writes. No condition. -/
import Derived.Test.YtceocfancfjdjaaDef4
namespace Go.Proofs.Ytceocfancfjdjaa
open Go Go.RowKit

def aftB (ops : List Oper) (sides : List Nat) (i : Nat) : Bool := sides.all (fun s => ((clos ops).getD i []).contains s)

theorem aftB_spec {ops : List Oper} {sides : List Nat} {i : Nat} (h : aftB ops sides i = true) {s : Nat} (hs : s ∈ sides) : Reach ops i s :=
  clos_spec (List.all_eq_true.1 h s hs)

/-- What one operation does in the text's order, and why it does that in every order. -/
inductive ActsS (n : Nat) (ops : List Oper) (effs sides : List Nat) (Q : APost) (ds : List CV) (i : Nat) (o : Oper) (fr : List (Nat × CV)) (loc : List (Nat × AObj)) (M : List AObj) : CV → List (Nat × AObj) → List AObj → Prop
  | free {v : CV} (hne : i ∉ effs) (hns : i ∉ sides) (hw : Wants ops fr o) (h : ∀ fr' lc Mc, Agree (usesOf ops o) fr fr' →
      AOp Try.prog n o (fun s' => s' = { fr := putF fr' o.dst v, loc := lc, M := Mc, ds := ds }) Q { fr := fr', loc := lc, M := Mc, ds := ds }) : ActsS n ops effs sides Q ds i o fr loc M v loc M
  | side {v : CV} {d : Nat} {x : AObj} (hs : i ∈ sides) (hne : i ∉ effs) (hw : Wants ops fr o) (hd : o.dst = some d) (h : ∀ fr' lc Mc, Agree (usesOf ops o) fr fr' → look lc d = none →
      AOp Try.prog n o (fun s' => s' = { fr := putF fr' o.dst v, loc := (d, x) :: lc, M := Mc, ds := ds }) Q { fr := fr', loc := lc, M := Mc, ds := ds }) : ActsS n ops effs sides Q ds i o fr loc M v ((d, x) :: loc) M
  | ord {v : CV} {loc' : List (Nat × AObj)} {M' : List AObj} (hns : i ∉ sides) (hw : Wants ops fr o) (ho : ordAll ops effs i = true) (hos : aftB ops sides i = true) (hm : i ∈ effs ∨ (loc' = loc ∧ M' = M)) (h : ∀ fr', Agree (usesOf ops o) fr fr' →
      AOp Try.prog n o (fun s' => s' = { fr := putF fr' o.dst v, loc := loc', M := M', ds := ds }) Q { fr := fr', loc := loc, M := M, ds := ds }) : ActsS n ops effs sides Q ds i o fr loc M v loc' M'

def SOps (n : Nat) (ops : List Oper) (effs sides : List Nat) (Q : APost) (ds : List CV) : Nat → Nat → List Oper → List (Nat × CV) → List (Nat × AObj) → List AObj → Prop
  | 0, _, rest, fr, loc, M => AOps Try.prog n ops.toArray Q rest { fr := fr, loc := loc, M := M, ds := ds }
  | _ + 1, _, [], _, _, _ => False
  | cnt + 1, i, o :: rest, fr, loc, M => ∃ v loc' M', ActsS n ops effs sides Q ds i o fr loc M v loc' M' ∧ SOps n ops effs sides Q ds cnt (i + 1) rest (putF fr o.dst v) loc' M'

structure TraceS (n : Nat) (ops : List Oper) (effs sides : List Nat) (Q : APost) (ds : List CV) (k : Nat) (V : Nat → CV) (F : Nat → List (Nat × CV)) (L : Nat → List (Nat × AObj)) (M : Nat → List AObj) : Prop where
  acts : ∀ i o, i < k → ops[i]? = some o → ActsS n ops effs sides Q ds i o (F i) (L i) (M i) (V i) (L (i + 1)) (M (i + 1))
  fr : ∀ i o, i < k → ops[i]? = some o → F (i + 1) = putF (F i) o.dst (V i)

theorem SOps.trace {n : Nat} {ops : List Oper} {effs sides : List Nat} {Q : APost} {ds : List CV} : ∀ (cnt i : Nat) (rest : List Oper) (fr : List (Nat × CV)) (loc : List (Nat × AObj)) (M : List AObj),
    ops.drop i = rest → SOps n ops effs sides Q ds cnt i rest fr loc M →
    ∃ (V : Nat → CV) (F : Nat → List (Nat × CV)) (L : Nat → List (Nat × AObj)) (Ms : Nat → List AObj), F i = fr ∧ L i = loc ∧ Ms i = M ∧ (∀ j o, i ≤ j → j < i + cnt → ops[j]? = some o →
      ActsS n ops effs sides Q ds j o (F j) (L j) (Ms j) (V j) (L (j + 1)) (Ms (j + 1)) ∧ F (j + 1) = putF (F j) o.dst (V j)) ∧
      AOps Try.prog n ops.toArray Q (ops.drop (i + cnt)) { fr := F (i + cnt), loc := L (i + cnt), M := Ms (i + cnt), ds := ds }
  | 0, i, rest, fr, loc, M, hr, h => by
    refine ⟨fun _ => .undef, fun _ => fr, fun _ => loc, fun _ => M, rfl, rfl, rfl, fun j o h1 h2 => by omega, ?_⟩
    rw [Nat.add_zero, hr]
    exact h
  | cnt + 1, i, [], _, _, _, _, h => h.elim
  | cnt + 1, i, o :: rest, fr, loc, M, hr, ⟨v, loc', M', ha, hrest⟩ => by
    have hi : ops[i]? = some o := by
      have := congrArg (·[0]?) hr
      simpa using this
    have hr2 : ops.drop (i + 1) = rest := by
      have := congrArg List.tail hr
      simpa using this
    obtain ⟨V, F, L, Ms, hF, hL, hM, hacts, htail⟩ := SOps.trace cnt (i + 1) rest _ loc' M' hr2 hrest
    refine ⟨fun j => if j = i then v else V j, fun j => if j = i then fr else F j, fun j => if j = i then loc else L j, fun j => if j = i then M else Ms j, by simp, by simp, by simp, ?_, ?_⟩
    · intro j o' h1 h2 ho'
      by_cases hj : j = i
      · subst hj
        rw [hi] at ho'
        cases ho'
        simp only [if_true, Nat.add_eq_left, Nat.one_ne_zero, if_false]
        rw [hF, hL, hM]
        exact ⟨ha, rfl⟩
      · have h3 : j + 1 ≠ i := by omega
        simp only [hj, h3, if_false]
        exact hacts j o' (by omega) (by omega) ho'
    · have h4 : i + (cnt + 1) ≠ i := by omega
      simp only [h4, if_false]
      have h5 : i + (cnt + 1) = i + 1 + cnt := by omega
      rw [h5]
      exact htail

section
variable {n : Nat} {ops : List Oper} {effs sides : List Nat} {Q : APost} {ds : List CV} {k : Nat}
variable {V : Nat → CV} {F : Nat → List (Nat × CV)} {Lc : Nat → List (Nat × AObj)} {Ms : Nat → List AObj}

theorem TraceS.frInv (hc : Chk ops effs) (hk : k ≤ ops.length) (h : TraceS n ops effs sides Q ds k V F Lc Ms) : ∀ i, i ≤ k → FrInv ops V (F 0) (· < i) (F i) := by
  intro i
  induction i with
  | zero => intro _ t; exact ⟨fun j hj => absurd hj (Nat.not_lt_zero j), fun _ => rfl⟩
  | succ i ih =>
    intro hik
    have hi : ops[i]? = some ops[i] := List.getElem?_eq_getElem (by omega)
    rw [h.fr i _ (by omega) hi]
    exact (ih (by omega)).put hc hi (fun j => by omega)

theorem TraceS.still (hk : k ≤ ops.length) (h : TraceS n ops effs sides Q ds k V F Lc Ms) {i : Nat} (hi : i < k) (hn : i ∉ effs) (hn2 : i ∉ sides) : Lc (i + 1) = Lc i ∧ Ms (i + 1) = Ms i := by
  have ho : ops[i]? = some ops[i] := List.getElem?_eq_getElem (by omega)
  have := h.acts i _ hi ho
  generalize V i = v at this
  generalize hl : Lc (i + 1) = l' at this
  generalize hm : Ms (i + 1) = m' at this
  cases this with
  | free => exact ⟨rfl, rfl⟩
  | side hs => exact absurd hs hn2
  | ord _ _ _ _ hor => exact hor.resolve_left hn

theorem TraceS.stillTo (hk : k ≤ ops.length) (h : TraceS n ops effs sides Q ds k V F Lc Ms) {c : Nat} (hcs : ∀ s ∈ sides, s < c) : ∀ d, c + d ≤ k → (∀ e ∈ effs, c ≤ e → e < c + d → False) → Lc (c + d) = Lc c ∧ Ms (c + d) = Ms c := by
  intro d
  induction d with
  | zero => intro _ _; exact ⟨rfl, rfl⟩
  | succ d ih =>
    intro hd hno
    have h1 := ih (by omega) (fun e he h1 h2 => hno e he h1 (by omega))
    have h2 := h.still hk (i := c + d) (by omega) (fun hm => hno _ hm (by omega) (by omega)) (fun hm => by have := hcs _ hm; omega)
    exact ⟨h2.1.trans h1.1, h2.2.trans h1.2⟩

theorem TraceS.mem (hk : k ≤ ops.length) (h : TraceS n ops effs sides Q ds k V F Lc Ms) {c i : Nat} (hcs : ∀ s ∈ sides, s < c) (his : ∀ s ∈ sides, s < i) (hc : c ≤ k) (hi : i ≤ k) (hb : ∀ e ∈ effs, e < c ↔ e < i) : Lc c = Lc i ∧ Ms c = Ms i := by
  rcases Nat.le_total c i with hle | hle
  · obtain ⟨d, rfl⟩ := Nat.exists_eq_add_of_le hle
    have := h.stillTo hk hcs d hi (fun e he h1 h2 => by have := (hb e he).2 h2; omega)
    exact ⟨this.1.symm, this.2.symm⟩
  · obtain ⟨d, rfl⟩ := Nat.exists_eq_add_of_le hle
    exact h.stillTo hk his d hc (fun e he h1 h2 => by have := (hb e he).1 h2; omega)

/-- Ahead of the writes only the variables are made. -/
theorem TraceS.early (hc : Chk ops effs) (hk : k ≤ ops.length) (h : TraceS n ops effs sides Q ds k V F Lc Ms) {c : Nat} : ∀ d, c + d ≤ k → (∀ e ∈ effs, c ≤ e → e < c + d → False) →
    Ms (c + d) = Ms c ∧ ∀ t, (∀ s ∈ sides, c ≤ s → s < c + d → dstN ops s ≠ some t) → look (Lc (c + d)) t = look (Lc c) t := by
  intro d
  induction d with
  | zero => intro _ _; exact ⟨rfl, fun _ _ => rfl⟩
  | succ d ih =>
    intro hd hno
    have h1 := ih (by omega) (fun e he h1 h2 => hno e he h1 (by omega))
    have hn : c + d ∉ effs := fun hm => hno _ hm (by omega) (by omega)
    have ho : ops[c + d]? = some ops[c + d] := List.getElem?_eq_getElem (by omega)
    have ha := h.acts (c + d) _ (by omega) ho
    rw [← Nat.add_assoc]
    generalize V (c + d) = v at ha
    generalize hl : Lc (c + d + 1) = l' at ha ⊢
    generalize hm : Ms (c + d + 1) = m' at ha ⊢
    cases ha with
    | free => exact ⟨h1.1, fun t ht => h1.2 t fun s hs h2 h3 => ht s hs h2 (by omega)⟩
    | side hs hne hw hdst =>
      rename_i d' x' _
      refine ⟨h1.1, fun t ht => ?_⟩
      have hdi : dstN ops (c + d) = some d' := by simp only [dstN, ho, Option.bind_some, hdst]
      rw [look_cons, if_neg (fun e => ht (c + d) hs (by omega) (by omega) (by rw [hdi, e]))]
      exact h1.2 t fun s hs h2 h3 => ht s hs h2 (by omega)
    | ord hns hw ho' hos hor =>
      obtain ⟨e1, e2⟩ := hor.resolve_left hn
      rw [e1, e2]
      exact ⟨h1.1, fun t ht => h1.2 t fun s hs h2 h3 => ht s hs h2 (by omega)⟩

/-- A variable that is made ahead of the writes is there until they come. -/
theorem TraceS.made (hc : Chk ops effs) (hk : k ≤ ops.length) (h : TraceS n ops effs sides Q ds k V F Lc Ms) {s c d : Nat} {x : AObj} (hd : dstN ops s = some d) (hL : Lc (s + 1) = (d, x) :: Lc s)
    (hsc : s < c) (hck : c ≤ k) (hno : ∀ e ∈ effs, s < e → e < c → False) : look (Lc c) d = some x := by
  obtain ⟨m, rfl⟩ := Nat.exists_eq_add_of_le (show s + 1 ≤ c by omega)
  have h1 := (h.early hc hk (c := s + 1) m hck (fun e he h1 h2 => hno e he (by omega) (by omega))).2 d (fun s' hs' h2 h3 hd' => by
    have := hc.dst s s' d hd hd'
    omega)
  rw [h1, hL, look_cons, if_pos rfl]

theorem any_mainS (hc : Chk ops effs) (ht : chkTail ops k = true) (hk : k ≤ ops.length) (heff : ∀ e ∈ effs, e < k) (hsd : ∀ s ∈ sides, s < k) (hes : ∀ e ∈ effs, aftB ops sides e = true) (hT : TraceS n ops effs sides Q ds k V F Lc Ms)
    (htail : AOps Try.prog n ops.toArray Q (ops.drop k) { fr := F k, loc := Lc k, M := Ms k, ds := ds }) :
    ∀ (fuel : Nat) (listed : Array Bool) (fr : List (Nat × CV)) (lc : List (Nat × AObj)) (c : Nat) (ρ : Rho) (w : World) (a : Act), listed.size = ops.length → left listed ≤ fuel → (∀ j, Ltd listed j → j < k) → Down ops (Ltd listed) →
      FrInv ops V (F 0) (Ltd listed) fr → c ≤ k → (∀ s ∈ sides, s < c) → (∀ e ∈ effs, Ltd listed e ↔ e < c) →
      (∀ s t, s ∈ sides → dstN ops s = some t → ¬ Ltd listed s → look lc t = none) → (∀ t, (∀ s, s ∈ sides → dstN ops s = some t → Ltd listed s) → look lc t = look (Lc c) t) →
      Sim n ρ { fr := fr, loc := lc, M := Ms c, ds := ds } w a →
      wpAny Try.prog .any ops.toArray (AQ n Q ρ { fr := fr, loc := lc, M := Ms c, ds := ds } w) fuel listed a w := by
  intro fuel
  induction fuel with
  | zero =>
    intro listed fr lc c ρ w a hsz hleft hLk hdown hfr hck hcs hce hl0 hl1 hs
    have hall : ∀ j, j < ops.length → Ltd listed j := fun j hj => left_zero (by omega) (by omega)
    have hkl : k = ops.length := by
      rcases Nat.lt_or_ge k ops.length with h | h
      · exact absurd (hLk k (hall k h)) (by omega)
      · omega
    have hmem := hT.mem hk hcs hsd hck (Nat.le_refl k) (fun e he => by
      have := heff e he
      exact ⟨fun _ => this, fun _ => (hce e he).1 (hall e (by omega))⟩)
    have hlk : ∀ t, look (Lc k) t = look lc t := fun t => by
      rw [hl1 t (fun s hs _ => hall s (by have := hsd s hs; omega)), hmem.1]
    rw [hmem.2] at hs ⊢
    have hs2 : Sim n ρ { fr := F k, loc := Lc k, M := Ms k, ds := ds } w a := (hs.relook hlk).ext fun t => (hfr.same (hT.frInv hc hk k (Nat.le_refl k)) fun j hd => by
      have hj : j < ops.length := by
        unfold dstN at hd
        cases hq : ops[j]? with
        | none => simp [hq] at hd
        | some q => exact (List.getElem?_eq_some_iff.1 hq).1
      exact ⟨fun h => hLk j h, fun _ => hall j hj⟩)
    refine wpAny_tail (k := k) hc ht (ops.drop k) k 0 listed a w rfl (Nat.le_refl k) hk hsz (fun j hj => ⟨fun h => hLk j h, fun _ => hall j hj⟩) (by simp [hkl]) ?_
    exact wpList_mono2 (fun e a w h => AQ.trans (Evol.relook hlk (Evol.fr rfl)) h) _ _ _ (htail ρ w a hs2)
  | succ fuel ih =>
    intro listed fr lc c ρ w a hsz hleft hLk hdown hfr hck hcs hce hl0 hl1 hs
    by_cases hall : ∀ j, j < k → Ltd listed j
    · have hmem := hT.mem hk hcs hsd hck (Nat.le_refl k) (fun e he => by
        have := heff e he
        exact ⟨fun _ => this, fun _ => (hce e he).1 (hall e (by omega))⟩)
      have hlk : ∀ t, look (Lc k) t = look lc t := fun t => by
        rw [hl1 t (fun s hs _ => hall s (hsd s hs)), hmem.1]
      rw [hmem.2] at hs ⊢
      have hs2 : Sim n ρ { fr := F k, loc := Lc k, M := Ms k, ds := ds } w a := (hs.relook hlk).ext fun t => (hfr.same (hT.frInv hc hk k (Nat.le_refl k)) fun j hd => ⟨fun h => hLk j h, fun h => hall j h⟩)
      refine wpAny_tail (k := k) hc ht (ops.drop k) k (fuel + 1) listed a w rfl (Nat.le_refl k) hk hsz (fun j hj => ⟨fun h => hLk j h, fun h => hall j h⟩) ?_ (wpList_mono2 (fun e a w h => AQ.trans (Evol.relook hlk (Evol.fr rfl)) h) _ _ _ (htail ρ w a hs2))
      refine Nat.le_trans ?_ hleft
      unfold left
      have h1 : listed.toList = listed.toList.take k ++ listed.toList.drop k := (List.take_append_drop _ _).symm
      have h2 : (listed.toList.drop k).count false = (listed.toList.drop k).length := by
        refine List.count_eq_length.2 fun b hb => ?_
        obtain ⟨m, hm, rfl⟩ := List.getElem_of_mem hb
        simp only [List.length_drop, Array.length_toList] at hm
        have h3 : ¬ Ltd listed (k + m) := fun h => by have := hLk _ h; omega
        unfold Ltd at h3
        have h4 : k + m < listed.size := by omega
        simp only [List.getElem_drop, Array.getElem_toList]
        simp [h4] at h3
        exact h3.symm
      rw [h1, List.count_append, h2]
      simp [hsz]
    · have hex : ∃ j, j < k ∧ ¬ Ltd listed j := by
        refine Classical.byContradiction fun h => hall fun j hj => Classical.byContradiction fun hn => h ⟨j, hj, hn⟩
      obtain ⟨j0, hj0, hn0⟩ := hex
      obtain ⟨i0, hi0⟩ := exists_ready hc hsz j0 j0 (Nat.le_refl _) (by omega) hn0
      refine ⟨fun h0 => (by rw [h0] at hi0; cases hi0), fun i hir => ?_⟩
      obtain ⟨hni, o, hi, hedges⟩ := (ready_iff hsz).1 hir
      have hilt : i < ops.length := (List.getElem?_eq_some_iff.1 hi).1
      have his : i < listed.size := by omega
      have hik : i < k := by
        rcases Nat.lt_or_ge i k with h | h
        · exact h
        · exact absurd ((chkTail_spec ht hilt h (by omega : j0 < i)).ready hdown hi hedges) hn0
      have hafter : ∀ e, Reach ops i e → Ltd listed e := fun e h => h.ready hdown hi hedges
      have hbefore : ∀ e, Reach ops e i → ¬ Ltd listed e := fun e h hl => hni (h.down hdown hl)
      have hFi := hT.frInv hc hk i (by omega)
      have hag : Agree (usesOf ops o) (F i) fr := fun t htu => hfr.same hFi fun j hd => by
        rcases hc.uses i o t j hi htu hd with h | h
        · exact ⟨fun _ => h.lt hc, fun _ => hafter j h⟩
        · exact ⟨fun h1 => absurd h1 (hbefore j h), fun h1 => by have := h.lt hc; omega⟩
      have hL' : ∀ j, Ltd (listed.setIfInBounds i true) j ↔ Ltd listed j ∨ j = i := fun j => Ltd.set his
      have hdown' : Down ops (Ltd (listed.setIfInBounds i true)) := by
        intro x ox e hx hox he
        rw [hL'] at hx ⊢
        rcases hx with hx | rfl
        · exact .inl (hdown x ox e hx hox he)
        · rw [hi] at hox
          cases hox
          exact .inl (hedges e he)
      have hfr' : FrInv ops V (F 0) (Ltd (listed.setIfInBounds i true)) (putF fr o.dst (V i)) := hfr.put hc hi hL'
      have hleft' : left (listed.setIfInBounds i true) ≤ fuel := by have := left_set his hni; omega
      have hLk' : ∀ j, Ltd (listed.setIfInBounds i true) j → j < k := fun j hj => by
        rcases (hL' j).1 hj with h | h
        · exact hLk j h
        · omega
      have hA := hT.acts i o hik hi
      have hdi : dstN ops i = o.dst := by simp [dstN, hi]
      have hce' : i ∉ effs → ∀ e ∈ effs, Ltd (listed.setIfInBounds i true) e ↔ e < c := fun hne e he => by
        rw [hL', ← hce e he]
        exact ⟨fun h => h.elim id (fun h => absurd (h ▸ he) hne), .inl⟩
      unfold wpOp
      rw [List.getElem?_toArray, hi]
      simp only
      have hwants : Wants ops (F i) o → Region.wanted o (yielded ops.toArray a.tmps) = true := by
        rintro (hg | ⟨j, b, hg, hb⟩)
        · simp [Region.wanted, hg]
        · have : gval ops.toArray { fr := fr, loc := lc, M := Ms c, ds := ds } j = .bool b := by
            rw [gvalF_eq, ← hb]
            unfold gvalF
            cases hj : (ops[j]?).bind (·.dst) with
            | none => rfl
            | some t =>
              simp only
              rw [hag t (by simp [usesOf, hg, hj])]
          simp [Region.wanted, hg, yielded_of hs this]
      generalize hv : V i = v at hA hfr'
      generalize hlq : Lc (i + 1) = l1 at hA
      generalize hmq : Ms (i + 1) = m1 at hA
      cases hA with
      | free hne hns hw h =>
        rw [if_pos (hwants hw)]
        refine .inl (Oper.wp_mono2 ?_ (fun _ _ _ h => h) (h fr lc (Ms c) hag ρ w a hs))
        rintro a' w' ⟨s', ρ', rfl, hsim, hev⟩
        refine wpAny_mono2 (fun e a w h => AQ.trans hev h) _ _ _ _ (ih _ _ lc c ρ' w' a' (by simp [hsz]) hleft' hLk' hdown' hfr' hck hcs (hce' hne) (fun s t hs1 hd1 hn1 => hl0 s t hs1 hd1 (fun h => hn1 ((hL' s).2 (.inl h)))) (fun t ht1 => hl1 t fun s hs1 hd1 => ?_) hsim)
        rcases (hL' s).1 (ht1 s hs1 hd1) with h1 | h1
        · exact h1
        · exact absurd (h1 ▸ hs1) hns
      | side hsi hne hw hdst h =>
        rename_i d x
        rw [if_pos (hwants hw)]
        have hfresh : look lc d = none := hl0 i d hsi (hdi.trans hdst) hni
        refine .inl (Oper.wp_mono2 ?_ (fun _ _ _ h => h) (h fr lc (Ms c) hag hfresh ρ w a hs))
        rintro a' w' ⟨s', ρ', rfl, hsim, hev⟩
        have hmade : look (Lc c) d = some x := hT.made hc hk (s := i) (hdi.trans hdst) (by rw [hlq]) (hcs i hsi) hck (fun e he h1 h2 => hbefore e (aftB_spec (hes e he) hsi) ((hce e he).2 h2))
        refine wpAny_mono2 (fun e a w h => AQ.trans hev h) _ _ _ _ (ih _ _ ((d, x) :: lc) c ρ' w' a' (by simp [hsz]) hleft' hLk' hdown' hfr' hck hcs (hce' hne) (fun s t hs1 hd1 hn1 => ?_) (fun t ht1 => ?_) hsim)
        · have hne2 : d ≠ t := by
            intro e
            subst e
            have := hc.dst i s d (hdi.trans hdst) hd1
            exact hn1 ((hL' s).2 (.inr this))
          rw [look_cons, if_neg hne2]
          exact hl0 s t hs1 hd1 (fun h => hn1 ((hL' s).2 (.inl h)))
        · rw [look_cons]
          by_cases hdt : d = t
          · subst hdt
            rw [if_pos rfl, hmade]
          · rw [if_neg hdt]
            refine hl1 t fun s hs1 hd1 => ?_
            rcases (hL' s).1 (ht1 s hs1 hd1) with h1 | h1
            · exact h1
            · subst h1
              rw [hdi, hdst] at hd1
              cases hd1
              exact absurd rfl hdt
      | ord hns hw ho hos hm h =>
        have hsl : ∀ s ∈ sides, Ltd listed s := fun s hs1 => hafter s (aftB_spec hos hs1)
        have hsi : ∀ s ∈ sides, s < i := fun s hs1 => (aftB_spec hos hs1).lt hc
        have h1 : ∀ e ∈ effs, e < c ↔ e < i := fun e he => by
          rw [← hce e he]
          rcases ordB_spec (List.all_eq_true.1 ho e he) with h | h | h
          · subst h; exact ⟨fun h => absurd h hni, fun h => by omega⟩
          · exact ⟨fun _ => h.lt hc, fun _ => hafter e h⟩
          · exact ⟨fun h1 => absurd h1 (hbefore e h), fun h1 => by have := h.lt hc; omega⟩
        have hmm := hT.mem hk hcs hsi hck (by omega) h1
        have hlk : ∀ t, look (Lc i) t = look lc t := fun t => by rw [hl1 t (fun s hs1 _ => hsl s hs1), hmm.1]
        rw [if_pos (hwants hw)]
        rw [hmm.2] at hs ⊢
        have hh := h fr hag ρ w a (hs.relook hlk)
        refine .inl (Oper.wp_mono2 ?_ ?_ hh)
        rotate_left
        · intro e a' w' hq
          exact AQ.trans (Evol.relook hlk (Evol.refl ρ _ w)) hq
        · rintro a' w' ⟨s', ρ', rfl, hsim, hev⟩
          subst hlq; subst hmq
          refine wpAny_mono2 (fun e a w h => AQ.trans (Evol.relook hlk hev) h) _ _ _ _ (ih _ _ (Lc (i + 1)) (i + 1) ρ' w' a' (by simp [hsz]) hleft' hLk' hdown' hfr' (by omega) (fun s hs1 => by have := hsi s hs1; omega) (fun e he => ?_) (fun s t hs1 hd1 hn1 => absurd ((hL' s).2 (.inl (hsl s hs1))) hn1) (fun t _ => rfl) hsim)
          rw [hL', hce e he, h1 e he]
          omega

theorem AWp.drawS {id : Nat} {fr : List (Nat × CV)} {loc : List (Nat × AObj)} {M : List AObj} (effs sides : List Nat) (b : Nat) (hb : Nat.ble b ops.length = true) (hc : chkD ops effs = true)
    (heff : effs.all (fun e => Nat.blt e ops.length && Nat.ble b e && aftB ops sides e) = true) (hsd : sides.all (fun s => Nat.blt s b && (match dstN ops s with | some t => (look loc t).isNone | none => true)) = true)
    (h : SOps n ops effs sides Q ds ops.length 0 ops fr loc M) : AWp Try.prog n (.region id ops.toArray true) Q { fr := fr, loc := loc, M := M, ds := ds } := by
  intro ρ w a hs
  obtain ⟨V, F, L, Ms, hF, hL, hM, hacts, htail⟩ := SOps.trace ops.length 0 ops fr loc M rfl h
  subst hF; subst hL; subst hM
  have hc' := chk_spec hc
  have hbl : b ≤ ops.length := Nat.le_of_ble_eq_true hb
  simp only [Nat.zero_add] at htail hacts
  have hT : TraceS n ops effs sides Q ds ops.length V F L Ms := ⟨fun i o hi ho => (hacts i o (Nat.zero_le _) hi ho).1, fun i o hi ho => (hacts i o (Nat.zero_le _) hi ho).2⟩
  have he1 : ∀ e ∈ effs, e < ops.length ∧ b ≤ e ∧ aftB ops sides e = true := fun e he => by
    have := List.all_eq_true.1 heff e he
    simp only [Bool.and_eq_true] at this
    exact ⟨Nat.le_of_ble_eq_true this.1.1, Nat.le_of_ble_eq_true this.1.2, this.2⟩
  have hs1 : ∀ s ∈ sides, s < b ∧ ∀ t, dstN ops s = some t → look (L 0) t = none := fun s hs => by
    have := List.all_eq_true.1 hsd s hs
    simp only [Bool.and_eq_true] at this
    refine ⟨Nat.le_of_ble_eq_true this.1, fun t ht => ?_⟩
    have h2 := this.2
    rw [ht] at h2
    simpa using h2
  have hearly := hT.early hc' (Nat.le_refl _) (c := 0) b (by omega) (fun e he _ h2 => by have := (he1 e he).2.1; omega)
  rw [Nat.zero_add] at hearly
  have hg : Grew w { w with drawn := w.drawn + 1 } := ⟨rfl, rfl, rfl, Nat.le_refl _, fun _ _ => rfl⟩
  refine wp_region_any mixed ?_
  have hnone : ∀ j, ¬ Ltd (Array.replicate ops.toArray.size false) j := fun j hj => by
    have := hj.lt
    unfold Ltd at hj
    simp only [Array.size_replicate] at this
    simp [Array.getD] at hj
  have hsim := hg.sim hs
  have hev := hg.evol (ρ := ρ) (s := { fr := F 0, loc := L 0, M := Ms 0, ds := ds })
  rw [← hearly.1] at hsim hev ⊢
  refine wpAny_mono2 (fun e a' w' hq => AQ.trans hev hq) _ _ _ _
    (any_mainS hc' (chkTail_end ops) (Nat.le_refl _) (fun e he => (he1 e he).1) (fun s hs => by have := (hs1 s hs).1; omega) (fun e he => (he1 e he).2.2) hT htail ops.toArray.size _ (F 0) (L 0) b ρ _ a (by simp) ?_ (fun j hj => absurd hj (hnone j))
      (fun i o e hi => absurd hi (hnone i)) (fun t => ⟨fun j hj => absurd hj (hnone j), fun _ => rfl⟩) hbl (fun s hs => (hs1 s hs).1) (fun e he => ⟨fun h => absurd h (hnone e), fun h => by have := (he1 e he).2.1; omega⟩)
      (fun s t hs ht _ => (hs1 s hs).2 t ht) (fun t ht => (hearly.2 t (fun s hs _ _ hd => hnone s (ht s hs hd))).symm) hsim)
  unfold left
  exact Nat.le_trans List.count_le_length (by simp)

end

section
variable {n : Nat} {ops : List Oper} {effs sides : List Nat} {Q : APost} {ds : List CV} {cnt i d : Nat} {o : Oper} {rest : List Oper} {fr : List (Nat × CV)} {loc : List (Nat × AObj)} {M : List AObj}

theorem S.end (h : AOps Try.prog n ops.toArray Q rest { fr := fr, loc := loc, M := M, ds := ds }) : SOps n ops effs sides Q ds 0 i rest fr loc M := h

theorem S.val {c : CV} (hf : effs.contains i = false ∧ sides.contains i = false) (hg : o.guard = none) (hdst : o.dst = some d) (h : headO (pstep { fr := fr, loc := [], M := [], ds := [] } o.op) = some c) (hd : Nat.blt d n = true)
    (k : SOps n ops effs sides Q ds cnt (i + 1) rest ((d, c) :: fr) loc M) : SOps n ops effs sides Q ds (cnt + 1) i (o :: rest) fr loc M := by
  rw [headO_eq] at h
  refine ⟨c, loc, M, .free (by simpa using hf.1) (by simpa using hf.2) (.inl hg) (fun fr' lc Mc ha => AOp.pure (c := c) ?_ (by rw [hdst]; exact hd) (by rw [put_fr])), by rw [hdst]; exact k⟩
  exact pstep_free ((pstep_congr (ds := []) (ds' := []) fun t ht => ha t (List.mem_append_left _ ht)).trans h)

theorem S.indexAddr {t z len : Nat} {x y : Operand} {row : List CV} {j : Int} (hf : effs.contains i = false ∧ sides.contains i = false) (hg : o.guard = none) (ho : o.op = .indexAddr t x y) (ht : tel t = some z)
    (hx : evF fr x = .islice row len) (hi : evF fr y = .int .i64 j) (hdst : o.dst = some d) (hd : Nat.blt d n = true)
    (h0 : 0 ≤ j) (h1 : j < (len : Int)) (hne : row ≠ []) (k : SOps n ops effs sides Q ds cnt (i + 1) rest ((d, .iptr row (j.toNat * z)) :: fr) loc M) :
    SOps n ops effs sides Q ds (cnt + 1) i (o :: rest) fr loc M := by
  refine S.val (c := .iptr row (j.toNat * z)) hf hg hdst ?_ hd k
  unfold evF at hx hi
  rw [headO_eq, ho]
  simp only [pstep, ht, hx, hi]
  rw [if_pos ⟨h0, h1, hne⟩]

theorem S.loadRow {t off : Nat} {x : Operand} {row : List CV} {c : CV} (hf : effs.contains i = false ∧ sides.contains i = false) (hg : o.guard = none) (ho : o.op = .load t x) (hx : evF fr x = .iptr row off) (hdst : o.dst = some d)
    (hd : Nat.blt d n = true) (hl : ld t row off = some c) (k : SOps n ops effs sides Q ds cnt (i + 1) rest ((d, c) :: fr) loc M) : SOps n ops effs sides Q ds (cnt + 1) i (o :: rest) fr loc M := by
  refine S.val (c := c) hf hg hdst ?_ hd k
  unfold evF at hx
  rw [headO_eq, ho]
  simp only [pstep, hx]
  exact hl

theorem S.alloc {t : Nat} {cs : List CV} (hf : effs.contains i = false ∧ sides.contains i = true) (hg : o.guard = none) (ho : o.op = .alloc t) (hdst : o.dst = some d) (hz : tzero t = some cs) (hd : Nat.blt d n = true)
    (k : SOps n ops effs sides Q ds cnt (i + 1) rest ((d, .ptr (.l d) 0 0) :: fr) ((d, .box cs) :: loc) M) : SOps n ops effs sides Q ds (cnt + 1) i (o :: rest) fr loc M := by
  refine ⟨.ptr (.l d) 0 0, _, M, .side (x := .box cs) (by simpa using hf.2) (by simpa using hf.1) (.inl hg) hdst (fun fr' lc Mc ha hnew => ?_), by rw [hdst]; exact k⟩
  refine AOp.allocL ho hdst hz hnew hd ?_
  rw [hdst]
  rfl

theorem S.storeL {t : TypeId} {p x : Operand} {l off k : Nat} {b : Bool} {cs ys cs' : List CV} (hf : effs.contains i = true ∧ sides.contains i = false) (hg : o.guard = none) (hor : ordAll ops effs i = true) (hos : aftB ops sides i = true) (ho : o.op = .store t p x) (hdst : o.dst = none)
    (hp : evF fr p = .ptr (.l l) 0 off) (hgl : look loc l = some (.box cs)) (htk : tk t = some (b, k))
    (hys : (evF fr x).cells = ys) (hfl : flat (evF fr x) = true) (hk : ys.length = k) (hset : setK cs off ys = some cs')
    (kk : SOps n ops effs sides Q ds cnt (i + 1) rest fr ((l, .box cs') :: loc) M) : SOps n ops effs sides Q ds (cnt + 1) i (o :: rest) fr loc M := by
  refine ⟨.undef, _, M, .ord (loc' := (l, .box cs') :: loc) (by simpa using hf.2) (.inl hg) hor hos (.inl (by simpa using hf.1)) (fun fr' ha => ?_), by rw [hdst]; exact kk⟩
  have hpe := ev_agree (loc := loc) (M := M) (ds := ds) (x := p) (by rw [ho]; simp [Op.operands]) ha
  have hxe := ev_agree (loc := loc) (M := M) (ds := ds) (x := x) (by rw [ho]; simp [Op.operands]) ha
  refine AOp.store (nm := .l l) ho hdst (hpe.trans hp) hgl htk (by rw [hxe]; exact hys) (by rw [hxe]; exact hfl) hk hset rfl ?_
  rw [hdst]
  rfl

end
end Go.Proofs.Ytceocfancfjdjaa
