/- What is resolved may be: names, kinds. No condition. -/
import Derived.Test.YtceocfancfjdjaaPlain1
import Derived.Test.YtceocfancfjdjaaChk
namespace Go.Proofs.Ytceocfancfjdjaa
open Go Go.RowKit

/-! ### names -/
def wfE (es : Ents) : Prop := ∀ b x, mget es b = some x → 0 ≤ x ∧ x < (es.length : Int)

theorem wfE_nil : wfE [] := fun b x h => by simp [mget] at h

theorem mget_append (es : Ents) (k : ByteArray) (y : Int) (b : ByteArray) : mget (es ++ [(k, y)]) b = match mget es b with
    | some x => some x
    | none => if seq b k then some y else none := by
  induction es with
  | nil => simp [mget]
  | cons p r ih =>
    obtain ⟨k', x'⟩ := p
    simp only [List.cons_append, mget]
    split
    · rfl
    · exact ih

theorem declE_wf {es es' : Ents} {b : ByteArray} {p : Int} (h : declE es b p = .ok es') (hw : wfE es) (hl : es.length ≤ 24) : wfE es' ∧ es'.length = es.length + 1 ∧ es'.length ≤ 24 := by
  unfold declE at h
  split at h
  · cases h
  · split at h
    · cases h
    · cases h
      refine ⟨fun c x hx => ?_, by simp, by simp; omega⟩
      rw [mget_append] at hx
      split at hx
      · rename_i y hy
        cases hx
        have := hw c _ hy
        simp only [List.length_append, List.length_singleton]
        omega
      · split at hx
        · cases hx
          simp only [List.length_append, List.length_singleton]
          omega
        · cases hx

mutual
theorem letsT_wf : ∀ (t : Tree) (es es' : Ents), letsT es t = .ok es' → wfE es → es.length ≤ 24 → wfE es' ∧ es.length ≤ es'.length ∧ es'.length ≤ 24
  | .mk k _ _ s _ ks p, es, es', h, hw, hl => by
    simp only [letsT] at h
    split at h
    · have := declE_wf h hw hl
      exact ⟨this.1, by omega, this.2.2⟩
    · split at h
      · exact letsL_wf ks es es' h hw hl
      · cases h
        exact ⟨hw, Nat.le_refl _, hl⟩
theorem letsL_wf : ∀ (l : List Tree) (es es' : Ents), letsL es l = .ok es' → wfE es → es.length ≤ 24 → wfE es' ∧ es.length ≤ es'.length ∧ es'.length ≤ 24
  | [], es, es', h, hw, hl => by
    simp only [letsL] at h
    cases h
    exact ⟨hw, Nat.le_refl _, hl⟩
  | t :: r, es, es', h, hw, hl => by
    simp only [letsL] at h
    split at h
    · rename_i es1 h1
      have a := letsT_wf t es es1 h1 hw hl
      have b := letsL_wf r es1 es' h a.1 a.2.2
      exact ⟨b.1, by omega, b.2.2⟩
    · cases h
end

theorem declL_wf (p : Int) : ∀ (l : List ByteArray) (es es' : Ents), declL p es l = .ok es' → wfE es → es.length ≤ 24 → wfE es' ∧ es'.length = es.length + l.length ∧ es'.length ≤ 24
  | [], es, es', h, hw, hl => by
    simp only [declL] at h
    cases h
    exact ⟨hw, rfl, hl⟩
  | b :: r, es, es', h, hw, hl => by
    simp only [declL] at h
    split at h
    · rename_i es1 h1
      have a := declE_wf h1 hw hl
      have b := declL_wf p r es1 es' h a.1 a.2.2
      refine ⟨b.1, ?_, b.2.2⟩
      simp only [List.length_cons]
      omega
    · cases h

/-- What is known of the names at hand. -/
def Env (whole : Ents) (own : Option Ents) (G L : Int) : Prop := wfE whole ∧ G = (whole.length : Int) ∧ match own with
  | none => True
  | some es => wfE es ∧ L = (es.length : Int)

theorem find_env {whole : Ents} {own : Option Ents} {G L : Int} (h : Env whole own G L) {b : ByteArray} {x : Int} {l : Bool} (hf : findR whole own b = some (x, l)) : 0 ≤ x ∧ (l = true → x < L) ∧ (l = false → x < G) := by
  obtain ⟨hw, hG, ho⟩ := h
  unfold findR at hf
  split at hf
  · rename_i y hy
    cases hf
    cases own with
    | none => cases hy
    | some es =>
      simp only at ho
      have := ho.1 b x hy
      exact ⟨this.1, (fun _ => by rw [ho.2]; exact this.2), (fun h => by cases h)⟩
  · split at hf
    · rename_i y hy
      cases hf
      have := hw b x hy
      exact ⟨this.1, (fun h => by cases h), fun _ => by rw [hG]; exact this.2⟩
    · cases hf

/-! ### roles -/
def role (t : Tree) : Prop := exprT t = true ∨ stmtT t = true ∨ blockT t = true

theorem len0 {ks : List Tree} (h : ((ks.length : Int) == 0) = true) : ks = [] := by
  have : ks.length = 0 := by simpa using h
  exact List.eq_nil_of_length_eq_zero this

theorem expr_kinds {k o n : Int} {s : ByteArray} {ns : List ByteArray} {ks : List Tree} {p : Int} (h : exprT (Tree.mk k o n s ns ks p) = true) : 1 ≤ k ∧ k ≤ 17 := by
  refine Classical.byContradiction fun hn => ?_
  have e : ∀ m : Int, 1 ≤ m → m ≤ 17 → (k == m) = false := fun m h1 h2 => by rw [beq_eq_false_iff_ne]; intro e; exact hn (by omega)
  simp [exprT, e 1 (by decide) (by decide), e 2 (by decide) (by decide), e 3 (by decide) (by decide), e 4 (by decide) (by decide), e 5 (by decide) (by decide), e 6 (by decide) (by decide),
    e 7 (by decide) (by decide), e 8 (by decide) (by decide), e 9 (by decide) (by decide), e 10 (by decide) (by decide), e 11 (by decide) (by decide), e 12 (by decide) (by decide),
    e 13 (by decide) (by decide), e 14 (by decide) (by decide), e 15 (by decide) (by decide), e 16 (by decide) (by decide), e 17 (by decide) (by decide)] at h

theorem stmt_kinds {k o n : Int} {s : ByteArray} {ns : List ByteArray} {ks : List Tree} {p : Int} (h : stmtT (Tree.mk k o n s ns ks p) = true) : 21 ≤ k ∧ k ≤ 32 ∧ k ≠ 29 := by
  refine Classical.byContradiction fun hn => ?_
  have e : ∀ m : Int, 21 ≤ m → m ≤ 32 → m ≠ 29 → (k == m) = false := fun m h1 h2 h3 => by rw [beq_eq_false_iff_ne]; intro e; exact hn (by omega)
  simp [stmtT, e 21 (by decide) (by decide) (by decide), e 22 (by decide) (by decide) (by decide), e 23 (by decide) (by decide) (by decide), e 24 (by decide) (by decide) (by decide),
    e 25 (by decide) (by decide) (by decide), e 26 (by decide) (by decide) (by decide), e 27 (by decide) (by decide) (by decide), e 28 (by decide) (by decide) (by decide),
    e 30 (by decide) (by decide) (by decide), e 31 (by decide) (by decide) (by decide), e 32 (by decide) (by decide) (by decide)] at h

theorem block_kind {k o n : Int} {s : ByteArray} {ns : List ByteArray} {ks : List Tree} {p : Int} (h : blockT (Tree.mk k o n s ns ks p) = true) : k = 29 ∧ plainB o n s ns false false false false = true ∧ (ks.length : Int) ≤ 40 ∧ allS ks = true := by
  simp only [blockT, Bool.and_eq_true, beq_iff_eq, decide_eq_true_eq] at h
  obtain ⟨⟨h1, h2⟩, h3, h4⟩ := h
  exact ⟨h1, h2, h3, h4⟩

theorem allE_mem {l : List Tree} (h : allE l = true) {t : Tree} (ht : t ∈ l) : exprT t = true := by
  rw [allE_all] at h
  exact List.all_eq_true.1 h t ht
theorem allS_mem {l : List Tree} (h : allS l = true) {t : Tree} (ht : t ∈ l) : stmtT t = true := by
  rw [allS_all] at h
  exact List.all_eq_true.1 h t ht

theorem ifT_parts {ks : List Tree} (h : ifT ks = true) : ∃ a b c, ks = [a, b, c] ∧ exprT a = true ∧ blockT b = true ∧ blockT c = true := by
  match ks, h with
  | [a, b, c], h =>
    simp only [ifT, Bool.and_eq_true] at h
    exact ⟨a, b, c, rfl, h.1.1, h.1.2, h.2⟩
  | [], h => cases h
  | [_], h => cases h
  | [_, _], h => cases h
  | _ :: _ :: _ :: _ :: _, h => cases h

theorem whileT_parts {ks : List Tree} (h : whileT ks = true) : ∃ a b, ks = [a, b] ∧ exprT a = true ∧ blockT b = true := by
  match ks, h with
  | [a, b], h =>
    simp only [whileT, Bool.and_eq_true] at h
    exact ⟨a, b, rfl, h.1, h.2⟩
  | [], h => cases h
  | [_], h => cases h
  | _ :: _ :: _ :: _, h => cases h

/-- What an expression's parts are. -/
theorem expr_kids {k o n : Int} {s : ByteArray} {ns : List ByteArray} {ks : List Tree} {p : Int} (h : exprT (Tree.mk k o n s ns ks p) = true) : (k = 8 ∧ allS ks = true) ∨ (k ≠ 8 ∧ allE ks = true) := by
  have hk := expr_kinds h
  have h3 : k = 1 ∨ k = 2 ∨ k = 3 ∨ k = 4 ∨ k = 5 ∨ k = 6 ∨ k = 7 ∨ k = 8 ∨ k = 9 ∨ k = 10 ∨ k = 11 ∨ k = 12 ∨ k = 13 ∨ k = 14 ∨ k = 15 ∨ k = 16 ∨ k = 17 := by omega
  rcases h3 with rfl | rfl | rfl | rfl | rfl | rfl | rfl | rfl | rfl | rfl | rfl | rfl | rfl | rfl | rfl | rfl | rfl
  all_goals simp [exprT] at h
  all_goals first
    | exact .inl ⟨rfl, h.2.2⟩
    | exact .inr ⟨by decide, h.2.2⟩
    | exact .inr ⟨by decide, h.2.2.2⟩
    | exact .inr ⟨by decide, h.2⟩
    | (refine .inr ⟨by decide, ?_⟩; have e : ks = [] := by simp_all
       rw [e]; rfl)

theorem stmt_kids {k o n : Int} {s : ByteArray} {ns : List ByteArray} {ks : List Tree} {p : Int} (h : stmtT (Tree.mk k o n s ns ks p) = true) : allE ks = true ∨ ifT ks = true ∨ whileT ks = true := by
  have hk := stmt_kinds h
  have h3 : k = 21 ∨ k = 22 ∨ k = 23 ∨ k = 24 ∨ k = 25 ∨ k = 26 ∨ k = 27 ∨ k = 28 ∨ k = 30 ∨ k = 31 ∨ k = 32 := by omega
  rcases h3 with rfl | rfl | rfl | rfl | rfl | rfl | rfl | rfl | rfl | rfl | rfl
  all_goals simp [stmtT] at h
  all_goals simp [h]

theorem kids_role {t : Tree} (h : role t) : ∀ x, x ∈ t.kids → role x := by
  obtain ⟨k, o, n, s, ns, ks, p⟩ := t
  intro x hx
  simp only [Tree.kids] at hx
  rcases h with h | h | h
  · rcases expr_kids h with ⟨_, h1⟩ | ⟨_, h1⟩
    · exact .inr (.inl (allS_mem h1 hx))
    · exact .inl (allE_mem h1 hx)
  · rcases stmt_kids h with h1 | h1 | h1
    · exact .inl (allE_mem h1 hx)
    · obtain ⟨a, b, c, rfl, ha, hb, hc⟩ := ifT_parts h1
      simp at hx
      rcases hx with rfl | rfl | rfl
      · exact .inl ha
      · exact .inr (.inr hb)
      · exact .inr (.inr hc)
    · obtain ⟨a, b, rfl, ha, hb⟩ := whileT_parts h1
      simp at hx
      rcases hx with rfl | rfl
      · exact .inl ha
      · exact .inr (.inr hb)
  · exact .inr (.inl (allS_mem (block_kind h).2.2.2 hx))

end Go.Proofs.Ytceocfancfjdjaa
/- What is resolved may be. No condition. -/
namespace Go.Proofs.Ytceocfancfjdjaa
open Go Go.RowKit

def Rel2 (G L F : Int) (t t' : Tree) : Prop := (exprT t = true → cexprT G L F t' = true) ∧ (stmtT t = true → cstmtT G L F t' = true) ∧ (blockT t = true → cblockT G L F t' = true)

def All2 (G L F : Int) : List Tree → List Tree → Prop
  | [], [] => True
  | t :: r, t' :: r' => Rel2 G L F t t' ∧ All2 G L F r r'
  | _, _ => False

section
variable {G L F : Int}

theorem All2.len : ∀ {l l' : List Tree}, All2 G L F l l' → l'.length = l.length
  | [], [], _ => rfl
  | t :: r, t' :: r', h => by simp [All2.len h.2]
  | [], _ :: _, h => h.elim
  | _ :: _, [], h => h.elim

theorem All2.E : ∀ {l l' : List Tree}, All2 G L F l l' → allE l = true → callE G L F l' = true
  | [], [], _, _ => rfl
  | t :: r, t' :: r', h, he => by
    simp only [allE, Bool.and_eq_true] at he
    simp only [callE, Bool.and_eq_true]
    exact ⟨h.1.1 he.1, h.2.E he.2⟩
  | [], _ :: _, h, _ => h.elim
  | _ :: _, [], h, _ => h.elim

theorem All2.S : ∀ {l l' : List Tree}, All2 G L F l l' → allS l = true → callS G L F l' = true
  | [], [], _, _ => rfl
  | t :: r, t' :: r', h, he => by
    simp only [allS, Bool.and_eq_true] at he
    simp only [callS, Bool.and_eq_true]
    exact ⟨h.1.2.1 he.1, h.2.S he.2⟩
  | [], _ :: _, h, _ => h.elim
  | _ :: _, [], h, _ => h.elim

theorem All2.ifs {l l' : List Tree} (h : All2 G L F l l') (he : ifT l = true) : cifT G L F l' = true := by
  obtain ⟨a, b, c, rfl, ha, hb, hc⟩ := ifT_parts he
  match l', h with
  | [a', b', c'], h =>
    simp only [cifT, Bool.and_eq_true]
    exact ⟨⟨h.1.1 ha, h.2.1.2.2 hb⟩, h.2.2.1.2.2 hc⟩
  | [], h => exact h.elim
  | [_], h => exact h.2.elim
  | [_, _], h => exact h.2.2.elim
  | _ :: _ :: _ :: _ :: _, h => exact h.2.2.2.elim

theorem All2.whiles {l l' : List Tree} (h : All2 G L F l l') (he : whileT l = true) : cwhileT G L F l' = true := by
  obtain ⟨a, b, rfl, ha, hb⟩ := whileT_parts he
  match l', h with
  | [a', b'], h =>
    simp only [cwhileT, Bool.and_eq_true]
    exact ⟨h.1.1 ha, h.2.1.2.2 hb⟩
  | [], h => exact h.elim
  | [_], h => exact h.2.elim
  | _ :: _ :: _ :: _, h => exact h.2.2.elim

theorem names_conv (ns : List ByteArray) : (!(ns.any fun x => !(isNameB x))) = ns.all isNameB := not_any ns _ isNameB (fun _ _ => rfl)

set_option maxHeartbeats 4000000 in
/-- A node that stays as it is, but for its parts. -/
theorem same_node {k o n : Int} {s : ByteArray} {ns : List ByteArray} {ks ks' : List Tree} {p : Int} (h5 : k ≠ 5) (h8 : k ≠ 8) (hb : ¬ (k = 21 ∨ k = 22)) (ha : All2 G L F ks ks') :
    Rel2 G L F (.mk k o n s ns ks p) (.mk k o n s ns ks' 0) := by
  have hl := ha.len
  have hE := ha.E
  refine ⟨fun h => ?_, fun h => ?_, fun h => ?_⟩
  · have hk := expr_kinds h
    have h3 : k = 1 ∨ k = 2 ∨ k = 3 ∨ k = 4 ∨ k = 6 ∨ k = 7 ∨ k = 9 ∨ k = 10 ∨ k = 11 ∨ k = 12 ∨ k = 13 ∨ k = 14 ∨ k = 15 ∨ k = 16 ∨ k = 17 := by omega
    clear hk hb
    rcases h3 with rfl | rfl | rfl | rfl | rfl | rfl | rfl | rfl | rfl | rfl | rfl | rfl | rfl | rfl | rfl
    all_goals simp only [cexprT, names_conv]
    all_goals simp [exprT, bareB, manyB] at h
    all_goals simp [numB, plainB, manyU, hl, h]
    all_goals first
      | omega
      | exact hE h.2.2
      | exact ⟨h.1.2.2, hE h.2.2⟩

  · have hk := stmt_kinds h
    have h3 : k = 23 ∨ k = 24 ∨ k = 25 ∨ k = 26 ∨ k = 27 ∨ k = 28 ∨ k = 30 ∨ k = 31 ∨ k = 32 := by omega
    clear hk hb
    rcases h3 with rfl | rfl | rfl | rfl | rfl | rfl | rfl | rfl | rfl
    all_goals simp only [cstmtT]
    all_goals simp [stmtT, bareB, manyB] at h
    all_goals simp [plainB, manyU, hl, h]
    all_goals first
      | exact hE h.2.2.2
      | exact ha.ifs h.2.2
      | exact ha.whiles h.2.2

  · obtain ⟨rfl, h1, h2, h3⟩ := block_kind h
    simp [cblockT, h1, hl, ha.S h3]
    omega

end

theorem lowT_mono : ∀ (t : Tree) (m m' : Int), m ≤ m' → lowT t m = true → lowT t m' = true
  | .mk _ _ _ _ _ ks _, m, m', hm, h => by
    simp only [lowT, Bool.and_eq_true, decide_eq_true_eq] at h ⊢
    refine ⟨by omega, ?_⟩
    have h2 := h.2
    rw [lowsT_all, List.all_eq_true] at h2 ⊢
    exact fun t ht => lowT_mono t (m - 1) (m' - 1) (by omega) (h2 t ht)

theorem lowsT_mem {l : List Tree} {m : Int} (h : lowsT l m = true) {t : Tree} (ht : t ∈ l) : lowT t m = true := by
  rw [lowsT_all] at h
  exact List.all_eq_true.1 h t ht

def FnR.fine (G F : Int) (f : FnR) : Prop := ∃ l, f.body = some l ∧ (∀ t, t ∈ l → lowT t 12 = true) ∧ 0 ≤ f.params ∧ f.params ≤ 6 ∧ f.params ≤ f.locals ∧ f.locals ≤ 24 ∧ (l.length : Int) ≤ 40 ∧ l.all (cstmtT G f.locals F) = true

theorem rel_name {G L F : Int} {k o n : Int} {s : ByteArray} {ns : List ByteArray} {ks : List Tree} {p x : Int} {l : Bool} (hk : k = 5) (hx : 0 ≤ x ∧ (l = true → x < L) ∧ (l = false → x < G)) :
    Rel2 G L F (.mk k o n s ns ks p) (nameN (if l then 18 else 19) x) := by
  subst hk
  refine ⟨fun _ => ?_, fun h => ?_, fun h => ?_⟩
  · have hs : seq nothing nothing = true := rfl
    cases l
    · have := hx.2.2 rfl
      simp [nameN, cexprT, numB, plainB, hs]
      omega
    · have := hx.2.1 rfl
      simp [nameN, cexprT, numB, plainB, hs]
      omega
  · have := stmt_kinds h
    omega
  · have := (block_kind h).1
    omega

mutual
theorem node_may : ∀ (t : Tree) (whole : Ents) (own : Option Ents) (fs : List FnR) (t' : Tree) (fs' : List FnR) (G L : Int), Env whole own G L → role t → lowT t 12 = true → nodeR t whole own fs = .ok (t', fs') →
    (∀ m, lowT t m = true → lowT t' m = true) ∧ ∃ new, fs' = fs ++ new ∧ ∀ F : Int, (fs'.length : Int) ≤ F → Rel2 G L F t t' ∧ ∀ f, f ∈ new → f.fine G F
  | .mk k o n s ns ks p, whole, own, fs, t', fs', G, L, hE, hr, hlow, h => by
    have hkr := kids_role hr
    simp only [Tree.kids] at hkr
    have hkl : ∀ x, x ∈ ks → lowT x 12 = true := by
      intro x hx
      simp only [lowT, Bool.and_eq_true] at hlow
      exact lowT_mono x 11 12 (by decide) (lowsT_mem hlow.2 hx)
    have hleaf : ∀ (kind x : Int) (m : Int), lowT (Tree.mk k o n s ns ks p) m = true → lowT (nameN kind x) m = true := by
      intro kind x m hm
      simp only [lowT, Bool.and_eq_true] at hm
      simp only [nameN, lowT, lowsT, Bool.and_true]
      exact hm.1
    simp only [nodeR] at h
    split at h
    · rename_i h5
      split at h
      · rename_i x l hf
        cases h
        exact ⟨hleaf _ _, [], by simp, fun F hF => ⟨rel_name h5 (find_env hE hf), fun f hf => by simp at hf⟩⟩
      · cases h
    · rename_i h5
      split at h
      · rename_i h8
        subst h8
        split at h
        · cases h
        · split at h
          · cases h
          · rename_i es1 hes1
            split at h
            · cases h
            · rename_i es2 hes2
              split at h
              · cases h
              · rename_i ks' fs2 hn
                cases h
                have hw1 := declL_wf p ns [] es1 hes1 wfE_nil (by simp)
                have hw2 := letsL_wf ks es1 es2 hes2 hw1.1 hw1.2.2
                have hE2 : Env whole (some es2) G (es2.length : Int) := ⟨hE.1, hE.2.1, hw2.1, rfl⟩
                obtain ⟨i1, new, i2, i3⟩ := nodes_may ks whole (some es2) _ ks' _ G (es2.length : Int) hE2 hkr hkl hn
                have hexpr : exprT (Tree.mk 8 o n s ns ks p) = true := by
                  rcases hr with hr | hr | hr
                  · exact hr
                  · have := stmt_kinds hr; omega
                  · have := (block_kind hr).1; omega
                have e := congrArg (fun x => setBody x fs.length ks') i2
                simp only [List.append_assoc, List.singleton_append, setBody_at] at e
                refine ⟨hleaf _ _, _, e, fun F hF => ⟨⟨fun _ => ?_, fun h => ?_, fun h => ?_⟩, fun f hf => ?_⟩⟩
                · have hs : seq nothing nothing = true := rfl
                  have hlt : (fs.length : Int) < F := by
                    rw [e] at hF
                    simp only [List.length_append, List.length_cons] at hF
                    omega
                  simp [nameN, cexprT, numB, plainB, hs]
                  omega
                · have := stmt_kinds h; omega
                · have := (block_kind h).1; omega
                · rw [setBody_len] at hF
                  have hi3 := i3 F hF
                  rcases List.mem_cons.1 hf with rfl | hf
                  · simp [exprT] at hexpr
                    have hall := hi3.1.S hexpr.2.2
                    rw [callS_all] at hall
                    have hlen := hi3.1.len
                    have hlows : ∀ t, t ∈ ks' → lowT t 12 = true := by
                      have : lowsT ks 12 = true := by rw [lowsT_all, List.all_eq_true]; exact hkl
                      exact fun t ht => lowsT_mem (i1 12 this) ht
                    refine ⟨ks', rfl, hlows, ?_, ?_, ?_, ?_, ?_, hall⟩
                    · show (0 : Int) ≤ (ns.length : Int); omega
                    · show (ns.length : Int) ≤ 6; exact hexpr.1.2.1
                    · show (ns.length : Int) ≤ (es2.length : Int)
                      have := hw1.2.1
                      simp only [List.length_nil] at this
                      omega
                    · show (es2.length : Int) ≤ 24; omega
                    · rw [hlen]; exact hexpr.2.1
                  · exact hi3.2 f hf
      · rename_i h8
        split at h
        · rename_i hb
          split at h
          · cases h
          · rename_i x l hf
            split at h
            · cases h
            · rename_i ks' fs2 hn
              cases h
              obtain ⟨i1, new, i2, i3⟩ := nodes_may ks whole own fs ks' _ G L hE hkr hkl hn
              have hx := find_env hE hf
              refine ⟨fun m hm => ?_, new, i2, fun F hF => ⟨⟨fun h => ?_, fun h => ?_, fun h => ?_⟩, (i3 F hF).2⟩⟩
              · simp only [lowT, Bool.and_eq_true] at hm ⊢
                exact ⟨hm.1, i1 _ hm.2⟩
              · have := expr_kinds h; omega
              · have hs : seq nothing nothing = true := rfl
                have ha := (i3 F hF).1
                have hl := ha.len
                have hm : (ks.length : Int) = 1 ∧ allE ks = true := by
                  rcases hb with rfl | rfl <;> (simp [stmtT, manyB] at h; exact ⟨by omega, h.2.2.2⟩)
                have hEE := ha.E hm.2
                cases l
                · have := hx.2.2 rfl
                  simp [cstmtT, plainB, manyU, hs, hl, hEE]
                  omega
                · have := hx.2.1 rfl
                  simp [cstmtT, plainB, manyU, hs, hl, hEE]
                  omega
              · have := (block_kind h).1; omega
        · rename_i hb
          split at h
          · cases h
          · rename_i ks' fs2 hn
            cases h
            obtain ⟨i1, new, i2, i3⟩ := nodes_may ks whole own fs ks' _ G L hE hkr hkl hn
            refine ⟨fun m hm => ?_, new, i2, fun F hF => ⟨same_node h5 h8 hb (i3 F hF).1, (i3 F hF).2⟩⟩
            simp only [lowT, Bool.and_eq_true] at hm ⊢
            exact ⟨hm.1, i1 _ hm.2⟩
theorem nodes_may : ∀ (l : List Tree) (whole : Ents) (own : Option Ents) (fs : List FnR) (l' : List Tree) (fs' : List FnR) (G L : Int), Env whole own G L → (∀ x, x ∈ l → role x) → (∀ x, x ∈ l → lowT x 12 = true) → nodesR l whole own fs = .ok (l', fs') →
    (∀ m, lowsT l m = true → lowsT l' m = true) ∧ ∃ new, fs' = fs ++ new ∧ ∀ F : Int, (fs'.length : Int) ≤ F → All2 G L F l l' ∧ ∀ f, f ∈ new → f.fine G F
  | [], whole, own, fs, l', fs', G, L, hE, hr, hlow, h => by
    simp only [nodesR] at h
    cases h
    exact ⟨fun m hm => hm, [], by simp, fun F hF => ⟨trivial, fun f hf => by simp at hf⟩⟩
  | t :: r, whole, own, fs, l', fs', G, L, hE, hr, hlow, h => by
    simp only [nodesR] at h
    split at h
    · cases h
    · rename_i t1 fs1 h1
      split at h
      · cases h
      · rename_i r1 fs2 h2
        cases h
        obtain ⟨a1, new1, a2, a3⟩ := node_may t whole own fs t1 fs1 G L hE (hr t (by simp)) (hlow t (by simp)) h1
        obtain ⟨b1, new2, b2, b3⟩ := nodes_may r whole own fs1 r1 _ G L hE (fun x hx => hr x (by simp [hx])) (fun x hx => hlow x (by simp [hx])) h2
        refine ⟨fun m hm => ?_, new1 ++ new2, by rw [b2, a2, List.append_assoc], fun F hF => ?_⟩
        · simp only [lowsT, Bool.and_eq_true] at hm ⊢
          exact ⟨a1 m hm.1, b1 m hm.2⟩
        · have hb := b3 F hF
          have ha := a3 F (by rw [b2, List.length_append] at hF; omega)
          refine ⟨⟨ha.1, hb.1⟩, fun f hf => ?_⟩
          rcases List.mem_append.1 hf with hf | hf
          · exact ha.2 f hf
          · exact hb.2 f hf
end

end Go.Proofs.Ytceocfancfjdjaa
/- How many functions come of a tree; no error is told as none. No condition. -/
namespace Go.Proofs.Ytceocfancfjdjaa
open Go Go.RowKit

/-! ### errors -/
theorem declE_err {es : Ents} {b : ByteArray} {p : Int} {f : Int × Int} (h : declE es b p = .error f) : f.2 ≠ 0 := by
  unfold declE at h
  split at h
  · cases h; simp
  · split at h
    · cases h; simp
    · cases h

mutual
theorem letsT_err : ∀ (t : Tree) (es : Ents) (f : Int × Int), letsT es t = .error f → f.2 ≠ 0
  | .mk k _ _ s _ ks p, es, f, h => by
    simp only [letsT] at h
    split at h
    · exact declE_err h
    · split at h
      · exact letsL_err ks es f h
      · cases h
theorem letsL_err : ∀ (l : List Tree) (es : Ents) (f : Int × Int), letsL es l = .error f → f.2 ≠ 0
  | [], es, f, h => by
    simp only [letsL] at h
    cases h
  | t :: r, es, f, h => by
    simp only [letsL] at h
    split at h
    · exact letsL_err r _ f h
    · rename_i h1
      cases h
      exact letsT_err t es _ h1
end

theorem declL_err (p : Int) : ∀ (l : List ByteArray) (es : Ents) (f : Int × Int), declL p es l = .error f → f.2 ≠ 0
  | [], es, f, h => by
    simp only [declL] at h
    cases h
  | b :: r, es, f, h => by
    simp only [declL] at h
    split at h
    · exact declL_err p r _ f h
    · rename_i h1
      cases h
      exact declE_err h1

mutual
theorem nodeR_err : ∀ (t : Tree) (whole : Ents) (own : Option Ents) (fs : List FnR) (f : Int × Int), nodeR t whole own fs = .error f → f.2 ≠ 0
  | .mk k o n s ns ks p, whole, own, fs, f, h => by
    simp only [nodeR] at h
    split at h
    · split at h
      · cases h
      · cases h; simp
    · split at h
      · split at h
        · cases h; simp
        · split at h
          · rename_i h1; cases h; exact declL_err p ns _ _ h1
          · split at h
            · rename_i h1; cases h; exact letsL_err ks _ _ h1
            · split at h
              · rename_i h1; cases h; exact nodesR_err ks _ _ _ _ h1
              · cases h
      · split at h
        · split at h
          · cases h; simp
          · split at h
            · rename_i h1; cases h; exact nodesR_err ks _ _ _ _ h1
            · cases h
        · split at h
          · rename_i h1; cases h; exact nodesR_err ks _ _ _ _ h1
          · cases h
theorem nodesR_err : ∀ (l : List Tree) (whole : Ents) (own : Option Ents) (fs : List FnR) (f : Int × Int), nodesR l whole own fs = .error f → f.2 ≠ 0
  | [], whole, own, fs, f, h => by
    simp only [nodesR] at h
    cases h
  | t :: r, whole, own, fs, f, h => by
    simp only [nodesR] at h
    split at h
    · rename_i h1; cases h; exact nodeR_err t _ _ _ _ h1
    · split at h
      · rename_i h1; cases h; exact nodesR_err r _ _ _ _ h1
      · cases h
end

/-! ### how many -/
mutual
theorem node_count : ∀ (t : Tree) (whole : Ents) (own : Option Ents) (fs : List FnR) (t' : Tree) (fs' : List FnR), role t → nodeR t whole own fs = .ok (t', fs') → (fs'.length : Int) = fs.length + fnsT t
  | .mk k o n s ns ks p, whole, own, fs, t', fs', hr, h => by
    have hkr := kids_role hr
    simp only [Tree.kids] at hkr
    simp only [nodeR] at h
    simp only [fnsT]
    split at h
    · rename_i h5
      subst h5
      have hks : ks = [] := by
        rcases hr with hr | hr | hr
        · simp [exprT] at hr; exact hr.2
        · have := stmt_kinds hr; omega
        · have := (block_kind hr).1; omega
      split at h
      · cases h
        simp [fn1, hks, fnssT]
      · cases h
    · split at h
      · rename_i h8
        subst h8
        split at h
        · cases h
        · split at h
          · cases h
          · split at h
            · cases h
            · split at h
              · cases h
              · rename_i ks' fs2 hn
                cases h
                have := nodes_count ks _ _ _ _ _ hkr hn
                rw [setBody_len]
                simp only [List.length_append, List.length_singleton] at this
                simp [fn1]
                omega
      · rename_i h8
        have hf : fn1 k = 0 := by simp [fn1, h8]
        split at h
        · split at h
          · cases h
          · split at h
            · cases h
            · rename_i hn
              cases h
              have := nodes_count ks _ _ _ _ _ hkr hn
              omega
        · split at h
          · cases h
          · rename_i hn
            cases h
            have := nodes_count ks _ _ _ _ _ hkr hn
            omega
theorem nodes_count : ∀ (l : List Tree) (whole : Ents) (own : Option Ents) (fs : List FnR) (l' : List Tree) (fs' : List FnR), (∀ x, x ∈ l → role x) → nodesR l whole own fs = .ok (l', fs') → (fs'.length : Int) = fs.length + fnssT l
  | [], whole, own, fs, l', fs', hr, h => by
    simp only [nodesR] at h
    cases h
    simp [fnssT]
  | t :: r, whole, own, fs, l', fs', hr, h => by
    simp only [nodesR] at h
    split at h
    · cases h
    · rename_i t1 fs1 h1
      split at h
      · cases h
      · rename_i h2
        cases h
        have a := node_count t whole own fs _ _ (hr t (by simp)) h1
        have b := nodes_count r whole own _ _ _ (fun x hx => hr x (by simp [hx])) h2
        simp only [fnssT]
        omega
end

/-- What Resolve answers: an error without a unit, or a unit that may be. -/
theorem resolve_may (t : Tree) (hsm : t.small) : ((resolveT t).2.2 ≠ 0 ∧ (resolveT t).1 = (0, [])) ∨
    ((resolveT t).2.2 = 0 ∧ ∃ g f0 fs, (resolveT t).1 = (g, f0 :: fs) ∧ 0 ≤ g ∧ g ≤ 24 ∧ (f0 :: fs).length ≤ 32 ∧ (f0.params = 0 ∧ f0.locals = 0) ∧ (∀ f, f ∈ f0 :: fs → f.may g ((f0 :: fs).length : Nat)) ∧ ((f0 :: fs).length : Int) = fnsT t + 1) := by
  have hgood := resolve_good t hsm
  unfold resolveT at hgood ⊢
  by_cases hc : checkT t = 0
  · rw [if_pos hc] at hgood ⊢
    cases hl : letsL [] t.kids with
    | error f => exact .inl ⟨letsL_err _ _ _ hl, rfl⟩
    | ok whole =>
      rw [hl] at hgood
      simp only at hgood ⊢
      cases hn : nodesR t.kids whole none [⟨0, 0, none⟩] with
      | error f => exact .inl ⟨nodesR_err _ _ _ _ _ hn, rfl⟩
      | ok q =>
        obtain ⟨ks', fs'⟩ := q
        rw [hn] at hgood
        simp only at hgood ⊢
        right
        have hlow : lowT t 12 = true ∧ blockT t = true := by
          unfold checkT at hc
          split at hc
          · cases hc
          · rename_i h1
            split at hc
            · cases hc
            · rename_i h2
              exact ⟨by simpa using h1, by simpa using h2⟩
        have hkr := kids_role (t := t) (.inr (.inr hlow.2))
        have hw := letsL_wf t.kids [] whole hl wfE_nil (by simp)
        obtain ⟨k, o, n, s, ns, ks, p⟩ := t
        simp only [Tree.kids] at hkr hl hn hw
        have hkl : ∀ x, x ∈ ks → lowT x 12 = true := by
          intro x hx
          have := hlow.1
          simp only [lowT, Bool.and_eq_true] at this
          exact lowT_mono x 11 12 (by decide) (lowsT_mem this.2 hx)
        have hb := block_kind hlow.2
        have hE : Env whole none (whole.length : Int) 0 := ⟨hw.1, rfl, trivial⟩
        obtain ⟨i1, new, i2, i3⟩ := nodes_may ks whole none _ ks' fs' (whole.length : Int) 0 hE hkr hkl hn
        have hcount := nodes_count ks whole none _ ks' fs' hkr hn
        have e := setBody_at [] ⟨0, 0, none⟩ new ks'
        simp only [List.nil_append, List.length_nil] at e
        rw [i2, List.singleton_append, e] at hgood ⊢
        rw [i2, List.singleton_append] at hcount
        have hlen : ((⟨0, 0, some ks'⟩ : FnR) :: new).length = fs'.length := by rw [i2]; simp
        have hi := i3 (fs'.length : Int) (Int.le_refl _)
        refine ⟨by first | rfl | trivial, (whole.length : Int), ⟨0, 0, some ks'⟩, new, rfl, by omega, by omega, hgood.2, ⟨rfl, rfl⟩, fun f hf => ?_, ?_⟩
        · obtain ⟨l, hl1, hl2, hl3⟩ := hgood.1 f hf
          rw [hlen]
          have hfine : f.fine (whole.length : Int) (fs'.length : Int) := by
            rcases List.mem_cons.1 hf with rfl | hf
            · have hall := hi.1.S hb.2.2.2
              rw [callS_all] at hall
              have hlows : lowsT ks 12 = true := by rw [lowsT_all, List.all_eq_true]; exact hkl
              exact ⟨ks', rfl, fun t ht => lowsT_mem (i1 12 hlows) ht, Int.le_refl _, (by show (0 : Int) ≤ 6; decide), Int.le_refl _, (by show (0 : Int) ≤ 24; decide), by rw [hi.1.len]; exact hb.2.2.1, hall⟩
            · exact hi.2 f hf
          obtain ⟨l', hl1', r1, r2, r3, r4, r5, r6, r7⟩ := hfine
          rw [hl1] at hl1'
          cases hl1'
          exact ⟨l, hl1, hl2, hl3, r1, r2, r3, r4, r5, r6, r7⟩
        · rw [hb.1]
          simp only [fnsT, fn1]
          simp only [List.length_cons, List.length_nil] at hcount ⊢
          simp
          omega
  · rw [if_neg hc]
    exact .inl ⟨hc, rfl⟩

end Go.Proofs.Ytceocfancfjdjaa
