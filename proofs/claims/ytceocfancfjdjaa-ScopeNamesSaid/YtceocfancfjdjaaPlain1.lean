/- What the document calls right the program calls right. No condition. -/
import Derived.Test.YtceocfancfjdjaaRefE
import Derived.Test.YtceocfancfjdjaaFnF
namespace Go.Proofs.Ytceocfancfjdjaa
open Go Go.RowKit

mutual
theorem lowT_of : ∀ (t : Tree) (m : Int), heightT t ≤ m → lowT t m = true
  | .mk _ _ _ _ _ ks _, m, h => by
    simp only [heightT] at h
    have hp := heightsT_pos ks
    simp only [lowT, Bool.and_eq_true, decide_eq_true_eq]
    exact ⟨by omega, lowsT_of ks (m - 1) (by omega)⟩
theorem lowsT_of : ∀ (l : List Tree) (m : Int), heightsT l ≤ m → lowsT l m = true
  | [], _, _ => rfl
  | t :: r, m, h => by
    simp only [heightsT] at h
    simp only [lowsT, Bool.and_eq_true]
    constructor
    · exact lowT_of t m (by split at h <;> omega)
    · exact lowsT_of r m (by split at h <;> omega)
end

theorem fields_o {k o n : Int} {s : ByteArray} {ns : List ByteArray} (h : fieldsT k o n s ns = true) :
    (k = 9 → o = 1 ∨ o = 2) ∧ (k = 10 → seq (signS o) nothing = false) ∧ (k = 17 → 1 ≤ o ∧ o ≤ 7) ∧ (k ≠ 9 → k ≠ 10 → k ≠ 17 → o = 0) := by
  simp only [fieldsT, Bool.and_eq_true, Bool.not_eq_true'] at h
  obtain ⟨⟨⟨⟨⟨⟨⟨⟨⟨⟨⟨h2, h3⟩, h4⟩, h6⟩, h8⟩, h9⟩, h10⟩, h12⟩, h13⟩, h16⟩, h18⟩, hN⟩ := h
  refine ⟨?_, ?_, ?_, ?_⟩
  · rintro rfl
    simp [rf2] at h2
    omega
  · rintro rfl
    simpa [rf3] using h3
  · rintro rfl
    simp [rf4] at h4
    omega
  · intro a b c
    simp [rf6] at h6
    exact h6 a b c

theorem fields_n {k o n : Int} {s : ByteArray} {ns : List ByteArray} (h : fieldsT k o n s ns = true) :
    (k = 2 → n = 0 ∨ n = 1) ∧ (k = 3 → 0 ≤ n ∧ n ≤ 4611686018427387903) ∧ (k ≠ 2 → k ≠ 3 → n = 0) := by
  simp only [fieldsT, Bool.and_eq_true, Bool.not_eq_true'] at h
  obtain ⟨⟨⟨⟨⟨⟨⟨⟨⟨⟨⟨h2, h3⟩, h4⟩, h6⟩, h8⟩, h9⟩, h10⟩, h12⟩, h13⟩, h16⟩, h18⟩, hN⟩ := h
  refine ⟨?_, ?_, ?_⟩
  · rintro rfl
    simp [rf8] at h8
    omega
  · rintro rfl
    simp [rf9] at h9
    omega
  · intro a b
    simp [rf10] at h10
    exact h10 a b

theorem fields_s {k o n : Int} {s : ByteArray} {ns : List ByteArray} (h : fieldsT k o n s ns = true) :
    (k = 4 → (s.size : Int) ≤ 256) ∧ (k = 5 ∨ k = 21 ∨ k = 22 → nameB s = true) ∧ (k = 13 ∨ k = 16 ∨ k = 23 ∨ k = 25 → isNameB s = true) ∧
    (k ≠ 13 → k ≠ 16 → k ≠ 23 → k ≠ 25 → k ≠ 4 → k ≠ 5 → k ≠ 21 → k ≠ 22 → seq s nothing = true) := by
  simp only [fieldsT, Bool.and_eq_true, Bool.not_eq_true'] at h
  obtain ⟨⟨⟨⟨⟨⟨⟨⟨⟨⟨⟨h2, h3⟩, h4⟩, h6⟩, h8⟩, h9⟩, h10⟩, h12⟩, h13⟩, h16⟩, h18⟩, hN⟩ := h
  refine ⟨?_, ?_, ?_, ?_⟩
  · rintro rfl
    simp [rf12] at h12
    omega
  · rintro (rfl | rfl | rfl) <;> simpa [rf13] using h13
  · rintro (rfl | rfl | rfl | rfl) <;> simpa [rf16, rf15] using h16
  · intro a b c d e f g i
    simpa [rf16, rf15, a, b, c, d, e, f, g, i] using h16

theorem fields_m {k o n : Int} {s : ByteArray} {ns : List ByteArray} (h : fieldsT k o n s ns = true) :
    (k ≠ 7 → k ≠ 8 → (ns.length : Int) = 0) ∧ (k = 7 → (ns.length : Int) ≤ 40) ∧ (k = 8 → (ns.length : Int) ≤ 6) ∧ ns.all isNameB = true ∧ (k = 8 → ns.all nameB = true) := by
  simp only [fieldsT, Bool.and_eq_true, Bool.not_eq_true'] at h
  obtain ⟨⟨⟨⟨⟨⟨⟨⟨⟨⟨⟨h2, h3⟩, h4⟩, h6⟩, h8⟩, h9⟩, h10⟩, h12⟩, h13⟩, h16⟩, h18⟩, hN⟩ := h
  simp only [List.all_eq_true, rfN, Bool.and_eq_true] at hN ⊢
  refine ⟨?_, ?_, ?_, fun x hx => (hN x hx).1, ?_⟩
  · intro a b
    simp [rf18, a, b] at h18
    simp [h18]
  · rintro rfl
    simp [rf18] at h18
    omega
  · rintro rfl
    simp [rf18] at h18
    omega
  · rintro rfl x hx
    simpa using (hN x hx).2

theorem rights_all {k : Int} {a : Int} (P : Tree → Bool) : ∀ (l : List Tree) (j : Nat), (∀ i, wantI k i = a) → rightsT k j l = true → (∀ t, t ∈ l → rightT t a = true → P t = true) → l.all P = true
  | [], _, _, _, _ => rfl
  | t :: r, j, hw, h, hp => by
    simp only [rightsT, Bool.and_eq_true, hw] at h
    simp only [List.all_cons, Bool.and_eq_true]
    exact ⟨hp t (by simp) h.1, rights_all P r (j + 1) hw h.2 (fun t ht => hp t (by simp [ht]))⟩

theorem want1 {k : Int} (h : k ≠ 28) (h2 : k ≠ 30) (h3 : k ≠ 8) (h4 : k ≠ 29) (i : Nat) : wantI k i = 1 := by
  simp [wantI, h, h2, h3, h4]

theorem built_ne {o : Int} (h : 1 ≤ o ∧ o ≤ 7) : seq (builtS o) nothing = false := by
  have h3 : o = 1 ∨ o = 2 ∨ o = 3 ∨ o = 4 ∨ o = 5 ∨ o = 6 ∨ o = 7 := by omega
  rcases h3 with rfl | rfl | rfl | rfl | rfl | rfl | rfl <;> rfl

set_option maxHeartbeats 4000000 in
theorem right_of (t : Tree) : (rightT t 1 = true → exprT t = true) ∧ (rightT t 2 = true → stmtT t = true) ∧ (rightT t 3 = true → blockT t = true) := by
  induction t using Tree.ind with
  | h k o n s ns ks p ih =>
    refine ⟨fun h => ?_, fun h => ?_, fun h => ?_⟩
    all_goals
      simp only [rightT, Bool.and_eq_true, Bool.not_eq_true', decide_eq_false_iff_not, beq_iff_eq] at h
      obtain ⟨⟨⟨⟨⟨hi, hm0⟩, hm1⟩, hm2⟩, hf⟩, hk⟩ := h
      obtain ⟨o1, o2, o3, o4⟩ := fields_o hf
      obtain ⟨n1, n2, n3⟩ := fields_n hf
      obtain ⟨s1, s2, s3, s4⟩ := fields_s hf
      obtain ⟨m1, m2, m3, m4, m5⟩ := fields_m hf
      clear hf
    · have hE : (∀ i, wantI k i = 1) → allE ks = true := fun hw => by rw [allE_all]; exact rights_all exprT ks 0 hw hk (fun t ht => (ih t ht).1)
      have hS : (∀ i, wantI k i = 2) → allS ks = true := fun hw => by rw [allS_all]; exact rights_all stmtT ks 0 hw hk (fun t ht => (ih t ht).2.1)
      have hk1 : 1 ≤ k ∧ k ≤ 17 := by
        unfold isI at hi
        split at hi
        · assumption
        · split at hi
          · cases hi
          · split at hi <;> cases hi
      clear hi hk ih
      have h3 : k = 1 ∨ k = 2 ∨ k = 3 ∨ k = 4 ∨ k = 5 ∨ k = 6 ∨ k = 7 ∨ k = 8 ∨ k = 9 ∨ k = 10 ∨ k = 11 ∨ k = 12 ∨ k = 13 ∨ k = 14 ∨ k = 15 ∨ k = 16 ∨ k = 17 := by omega
      rcases h3 with rfl | rfl | rfl | rfl | rfl | rfl | rfl | rfl | rfl | rfl | rfl | rfl | rfl | rfl | rfl | rfl | rfl
      all_goals simp [manyT] at hm0 hm1 hm2
      all_goals simp at o1 o2 o3 o4 n1 n2 n3 s1 s2 s3 s4 m1 m2 m3 m5
      all_goals simp only [exprT]
      all_goals simp [bareB, manyB, *]
      all_goals first
        | exact hE (fun i => by simp [wantI])
        | exact ⟨m5, hS (fun i => by simp [wantI])⟩
        | exact ⟨built_ne o3, hE (fun i => by simp [wantI])⟩
    · have hE : (∀ i, wantI k i = 1) → allE ks = true := fun hw => by rw [allE_all]; exact rights_all exprT ks 0 hw hk (fun t ht => (ih t ht).1)
      have hk1 : 21 ≤ k ∧ k ≤ 32 ∧ k ≠ 29 := by
        unfold isI at hi
        split at hi
        · cases hi
        · split at hi
          · cases hi
          · split at hi
            · omega
            · cases hi
      clear hi
      by_cases h28 : k = 28
      · subst h28
        simp [manyT] at hm0 hm1 hm2
        match ks, hm1, hm2, hk, ih with
        | [a, b, c], _, _, hk, ih =>
          simp [rightsT, wantI] at hk
          have e1 := (ih a (by simp)).1 hk.1
          have e2 := (ih b (by simp)).2.2 hk.2.1
          have e3 := (ih c (by simp)).2.2 hk.2.2
          simp at o4 n3 s4 m1
          simp [stmtT, bareB, ifT, *]
        | [], h1, _, _, _ => simp at h1
        | [_], h1, _, _, _ => simp at h1
        | [_, _], h1, _, _, _ => simp at h1
        | _ :: _ :: _ :: _ :: _, _, h2, _, _ => simp at h2; omega
      · by_cases h30 : k = 30
        · subst h30
          simp [manyT] at hm0 hm1 hm2
          match ks, hm1, hm2, hk, ih with
          | [a, b], _, _, hk, ih =>
            simp [rightsT, wantI] at hk
            have e1 := (ih a (by simp)).1 hk.1
            have e2 := (ih b (by simp)).2.2 hk.2
            simp at o4 n3 s4 m1
            simp [stmtT, bareB, whileT, *]
          | [], h1, _, _, _ => simp at h1
          | [_], h1, _, _, _ => simp at h1
          | _ :: _ :: _ :: _, _, h2, _, _ => simp at h2; omega
        · clear hk ih
          have h3 : k = 21 ∨ k = 22 ∨ k = 23 ∨ k = 24 ∨ k = 25 ∨ k = 26 ∨ k = 27 ∨ k = 31 ∨ k = 32 := by omega
          rcases h3 with rfl | rfl | rfl | rfl | rfl | rfl | rfl | rfl | rfl
          all_goals simp [manyT] at hm0 hm1 hm2
          all_goals simp at o1 o2 o3 o4 n1 n2 n3 s1 s2 s3 s4 m1 m2 m3 m5
          all_goals simp only [stmtT]
          all_goals simp [bareB, manyB, *]
          all_goals exact hE (fun i => by simp [wantI])
    · have hk1 : k = 29 := by
        unfold isI at hi
        split at hi
        · cases hi
        · split at hi
          · assumption
          · split at hi <;> cases hi
      subst hk1
      have hS : allS ks = true := by rw [allS_all]; exact rights_all stmtT ks 0 (fun i => by simp [wantI]) hk (fun t ht => (ih t ht).2.1)
      simp [manyT] at hm0 hm1 hm2
      simp at o1 o2 o3 o4 n1 n2 n3 s1 s2 s3 s4 m1 m2 m3 m5
      simp only [blockT]
      simp [bareB, *]

/-- The program's test agrees where the document's says yes. -/
theorem check_of (t : Tree) (h : refCheckT t = 0) : checkT t = 0 := by
  unfold refCheckT at h
  split at h
  · cases h
  · rename_i h1
    split at h
    · cases h
    · rename_i h2
      have e1 := lowT_of t 12 (by omega)
      have e2 := (right_of t).2.2 (by simpa using h2)
      simp [checkT, e1, e2]

end Go.Proofs.Ytceocfancfjdjaa
