/- What the document calls right the program calls right. No condition. -/
import Derived.Test.YtceocfancfjdjaaRefE
import Derived.Test.YtceocfancfjdjaaFnF
import Derived.Test.YtceocfancfjdjaaTurn
import Derived.Test.YtceocfancfjdjaaResB
import Derived.Test.YtceocfancfjdjaaSameU
namespace Go.Proofs.Ytceocfancfjdjaa
open Go Go.RowKit

mutual
theorem lowT_of : ∀ (t : Tree) (m : Int), heightT t ≤ m → lowT t m = true
  | .mk _ _ _ _ _ ks _, m, h => by
    simp only [heightT] at h
    have hp := heightsT_pos ks
    simp only [lowT, Bool.and_eq_true, decide_eq_true_eq]
    exact ⟨by omega, lowsT_of ks (m - 1) (by omega)⟩
theorem lowsT_of : ∀ (l : List Tree) (m : Int), heightsT l ≤ m → lowsT l m = true
  | [], _, _ => rfl
  | t :: r, m, h => by
    simp only [heightsT] at h
    simp only [lowsT, Bool.and_eq_true]
    constructor
    · exact lowT_of t m (by split at h <;> omega)
    · exact lowsT_of r m (by split at h <;> omega)
end

theorem fields_o {k o n : Int} {s : ByteArray} {ns : List ByteArray} (h : fieldsT k o n s ns = true) :
    (k = 9 → o = 1 ∨ o = 2) ∧ (k = 10 → seq (signS o) nothing = false) ∧ (k = 17 → 1 ≤ o ∧ o ≤ 7) ∧ (k ≠ 9 → k ≠ 10 → k ≠ 17 → o = 0) := by
  simp only [fieldsT, Bool.and_eq_true, Bool.not_eq_true'] at h
  obtain ⟨⟨⟨⟨⟨⟨⟨⟨⟨⟨⟨h2, h3⟩, h4⟩, h6⟩, h8⟩, h9⟩, h10⟩, h12⟩, h13⟩, h16⟩, h18⟩, hN⟩ := h
  refine ⟨?_, ?_, ?_, ?_⟩
  · rintro rfl
    simp [rf2] at h2
    omega
  · rintro rfl
    simpa [rf3] using h3
  · rintro rfl
    simp [rf4] at h4
    omega
  · intro a b c
    simp [rf6] at h6
    exact h6 a b c

theorem fields_n {k o n : Int} {s : ByteArray} {ns : List ByteArray} (h : fieldsT k o n s ns = true) :
    (k = 2 → n = 0 ∨ n = 1) ∧ (k = 3 → 0 ≤ n ∧ n ≤ 4611686018427387903) ∧ (k ≠ 2 → k ≠ 3 → n = 0) := by
  simp only [fieldsT, Bool.and_eq_true, Bool.not_eq_true'] at h
  obtain ⟨⟨⟨⟨⟨⟨⟨⟨⟨⟨⟨h2, h3⟩, h4⟩, h6⟩, h8⟩, h9⟩, h10⟩, h12⟩, h13⟩, h16⟩, h18⟩, hN⟩ := h
  refine ⟨?_, ?_, ?_⟩
  · rintro rfl
    simp [rf8] at h8
    omega
  · rintro rfl
    simp [rf9] at h9
    omega
  · intro a b
    simp [rf10] at h10
    exact h10 a b

theorem fields_s {k o n : Int} {s : ByteArray} {ns : List ByteArray} (h : fieldsT k o n s ns = true) :
    (k = 4 → (s.size : Int) ≤ 256) ∧ (k = 5 ∨ k = 21 ∨ k = 22 → nameB s = true) ∧ (k = 13 ∨ k = 16 ∨ k = 23 ∨ k = 25 → isNameB s = true) ∧
    (k ≠ 13 → k ≠ 16 → k ≠ 23 → k ≠ 25 → k ≠ 4 → k ≠ 5 → k ≠ 21 → k ≠ 22 → seq s nothing = true) := by
  simp only [fieldsT, Bool.and_eq_true, Bool.not_eq_true'] at h
  obtain ⟨⟨⟨⟨⟨⟨⟨⟨⟨⟨⟨h2, h3⟩, h4⟩, h6⟩, h8⟩, h9⟩, h10⟩, h12⟩, h13⟩, h16⟩, h18⟩, hN⟩ := h
  refine ⟨?_, ?_, ?_, ?_⟩
  · rintro rfl
    simp [rf12] at h12
    omega
  · rintro (rfl | rfl | rfl) <;> simpa [rf13] using h13
  · rintro (rfl | rfl | rfl | rfl) <;> simpa [rf16, rf15] using h16
  · intro a b c d e f g i
    simpa [rf16, rf15, a, b, c, d, e, f, g, i] using h16

theorem fields_m {k o n : Int} {s : ByteArray} {ns : List ByteArray} (h : fieldsT k o n s ns = true) :
    (k ≠ 7 → k ≠ 8 → (ns.length : Int) = 0) ∧ (k = 7 → (ns.length : Int) ≤ 40) ∧ (k = 8 → (ns.length : Int) ≤ 6) ∧ ns.all isNameB = true ∧ (k = 8 → ns.all nameB = true) := by
  simp only [fieldsT, Bool.and_eq_true, Bool.not_eq_true'] at h
  obtain ⟨⟨⟨⟨⟨⟨⟨⟨⟨⟨⟨h2, h3⟩, h4⟩, h6⟩, h8⟩, h9⟩, h10⟩, h12⟩, h13⟩, h16⟩, h18⟩, hN⟩ := h
  simp only [List.all_eq_true, rfN, Bool.and_eq_true] at hN ⊢
  refine ⟨?_, ?_, ?_, fun x hx => (hN x hx).1, ?_⟩
  · intro a b
    simp [rf18, a, b] at h18
    simp [h18]
  · rintro rfl
    simp [rf18] at h18
    omega
  · rintro rfl
    simp [rf18] at h18
    omega
  · rintro rfl x hx
    simpa using (hN x hx).2

theorem rights_all {k : Int} {a : Int} (P : Tree → Bool) : ∀ (l : List Tree) (j : Nat), (∀ i, wantI k i = a) → rightsT k j l = true → (∀ t, t ∈ l → rightT t a = true → P t = true) → l.all P = true
  | [], _, _, _, _ => rfl
  | t :: r, j, hw, h, hp => by
    simp only [rightsT, Bool.and_eq_true, hw] at h
    simp only [List.all_cons, Bool.and_eq_true]
    exact ⟨hp t (by simp) h.1, rights_all P r (j + 1) hw h.2 (fun t ht => hp t (by simp [ht]))⟩

theorem want1 {k : Int} (h : k ≠ 28) (h2 : k ≠ 30) (h3 : k ≠ 8) (h4 : k ≠ 29) (i : Nat) : wantI k i = 1 := by
  simp [wantI, h, h2, h3, h4]

theorem built_ne {o : Int} (h : 1 ≤ o ∧ o ≤ 7) : seq (builtS o) nothing = false := by
  have h3 : o = 1 ∨ o = 2 ∨ o = 3 ∨ o = 4 ∨ o = 5 ∨ o = 6 ∨ o = 7 := by omega
  rcases h3 with rfl | rfl | rfl | rfl | rfl | rfl | rfl <;> rfl

set_option maxHeartbeats 4000000 in
theorem right_of (t : Tree) : (rightT t 1 = true → exprT t = true) ∧ (rightT t 2 = true → stmtT t = true) ∧ (rightT t 3 = true → blockT t = true) := by
  induction t using Tree.ind with
  | h k o n s ns ks p ih =>
    refine ⟨fun h => ?_, fun h => ?_, fun h => ?_⟩
    all_goals
      simp only [rightT, Bool.and_eq_true, Bool.not_eq_true', decide_eq_false_iff_not, beq_iff_eq] at h
      obtain ⟨⟨⟨⟨⟨hi, hm0⟩, hm1⟩, hm2⟩, hf⟩, hk⟩ := h
      obtain ⟨o1, o2, o3, o4⟩ := fields_o hf
      obtain ⟨n1, n2, n3⟩ := fields_n hf
      obtain ⟨s1, s2, s3, s4⟩ := fields_s hf
      obtain ⟨m1, m2, m3, m4, m5⟩ := fields_m hf
      clear hf
    · have hE : (∀ i, wantI k i = 1) → allE ks = true := fun hw => by rw [allE_all]; exact rights_all exprT ks 0 hw hk (fun t ht => (ih t ht).1)
      have hS : (∀ i, wantI k i = 2) → allS ks = true := fun hw => by rw [allS_all]; exact rights_all stmtT ks 0 hw hk (fun t ht => (ih t ht).2.1)
      have hk1 : 1 ≤ k ∧ k ≤ 17 := by
        unfold isI at hi
        split at hi
        · assumption
        · split at hi
          · cases hi
          · split at hi <;> cases hi
      clear hi hk ih
      have h3 : k = 1 ∨ k = 2 ∨ k = 3 ∨ k = 4 ∨ k = 5 ∨ k = 6 ∨ k = 7 ∨ k = 8 ∨ k = 9 ∨ k = 10 ∨ k = 11 ∨ k = 12 ∨ k = 13 ∨ k = 14 ∨ k = 15 ∨ k = 16 ∨ k = 17 := by omega
      rcases h3 with rfl | rfl | rfl | rfl | rfl | rfl | rfl | rfl | rfl | rfl | rfl | rfl | rfl | rfl | rfl | rfl | rfl
      all_goals simp [manyT] at hm0 hm1 hm2
      all_goals simp at o1 o2 o3 o4 n1 n2 n3 s1 s2 s3 s4 m1 m2 m3 m5
      all_goals simp only [exprT]
      all_goals simp [bareB, manyB, *]
      all_goals first
        | exact hE (fun i => by simp [wantI])
        | exact ⟨m5, hS (fun i => by simp [wantI])⟩
        | exact ⟨built_ne o3, hE (fun i => by simp [wantI])⟩
    · have hE : (∀ i, wantI k i = 1) → allE ks = true := fun hw => by rw [allE_all]; exact rights_all exprT ks 0 hw hk (fun t ht => (ih t ht).1)
      have hk1 : 21 ≤ k ∧ k ≤ 32 ∧ k ≠ 29 := by
        unfold isI at hi
        split at hi
        · cases hi
        · split at hi
          · cases hi
          · split at hi
            · omega
            · cases hi
      clear hi
      by_cases h28 : k = 28
      · subst h28
        simp [manyT] at hm0 hm1 hm2
        match ks, hm1, hm2, hk, ih with
        | [a, b, c], _, _, hk, ih =>
          simp [rightsT, wantI] at hk
          have e1 := (ih a (by simp)).1 hk.1
          have e2 := (ih b (by simp)).2.2 hk.2.1
          have e3 := (ih c (by simp)).2.2 hk.2.2
          simp at o4 n3 s4 m1
          simp [stmtT, bareB, ifT, *]
        | [], h1, _, _, _ => simp at h1
        | [_], h1, _, _, _ => simp at h1
        | [_, _], h1, _, _, _ => simp at h1
        | _ :: _ :: _ :: _ :: _, _, h2, _, _ => simp at h2; omega
      · by_cases h30 : k = 30
        · subst h30
          simp [manyT] at hm0 hm1 hm2
          match ks, hm1, hm2, hk, ih with
          | [a, b], _, _, hk, ih =>
            simp [rightsT, wantI] at hk
            have e1 := (ih a (by simp)).1 hk.1
            have e2 := (ih b (by simp)).2.2 hk.2
            simp at o4 n3 s4 m1
            simp [stmtT, bareB, whileT, *]
          | [], h1, _, _, _ => simp at h1
          | [_], h1, _, _, _ => simp at h1
          | _ :: _ :: _ :: _, _, h2, _, _ => simp at h2; omega
        · clear hk ih
          have h3 : k = 21 ∨ k = 22 ∨ k = 23 ∨ k = 24 ∨ k = 25 ∨ k = 26 ∨ k = 27 ∨ k = 31 ∨ k = 32 := by omega
          rcases h3 with rfl | rfl | rfl | rfl | rfl | rfl | rfl | rfl | rfl
          all_goals simp [manyT] at hm0 hm1 hm2
          all_goals simp at o1 o2 o3 o4 n1 n2 n3 s1 s2 s3 s4 m1 m2 m3 m5
          all_goals simp only [stmtT]
          all_goals simp [bareB, manyB, *]
          all_goals exact hE (fun i => by simp [wantI])
    · have hk1 : k = 29 := by
        unfold isI at hi
        split at hi
        · cases hi
        · split at hi
          · assumption
          · split at hi <;> cases hi
      subst hk1
      have hS : allS ks = true := by rw [allS_all]; exact rights_all stmtT ks 0 (fun i => by simp [wantI]) hk (fun t ht => (ih t ht).2.1)
      simp [manyT] at hm0 hm1 hm2
      simp at o1 o2 o3 o4 n1 n2 n3 s1 s2 s3 s4 m1 m2 m3 m5
      simp only [blockT]
      simp [bareB, *]

/-- The program's test agrees where the document's says yes. -/
theorem check_of (t : Tree) (h : refCheckT t = 0) : checkT t = 0 := by
  unfold refCheckT at h
  split at h
  · cases h
  · rename_i h1
    split at h
    · cases h
    · rename_i h2
      have e1 := lowT_of t 12 (by omega)
      have e2 := (right_of t).2.2 (by simpa using h2)
      simp [checkT, e1, e2]

end Go.Proofs.Ytceocfancfjdjaa
/- Names do not matter: a tree with each name turned resolves as the tree itself. No condition. -/
namespace Go.Proofs.Ytceocfancfjdjaa
open Go Go.RowKit

theorem qs_list (b : ByteArray) : (qs b).data.toList = 113 :: b.data.toList := by
  unfold qs
  rw [ByteArray.data_append]
  simp

theorem seq_qs (a b : ByteArray) : seq (qs a) (qs b) = seq a b := by
  unfold seq
  rw [qs_list, qs_list, List.cons_beq_cons]
  simp

def qe (es : Ents) : Ents := es.map fun p => (qs p.1, p.2)

theorem qe_len (es : Ents) : (qe es).length = es.length := by simp [qe]

theorem mget_qe (es : Ents) (b : ByteArray) : mget (qe es) (qs b) = mget es b := by
  induction es with
  | nil => rfl
  | cons p r ih =>
    obtain ⟨k, x⟩ := p
    show mget ((qs k, x) :: qe r) (qs b) = _
    simp only [mget, seq_qs, ih]

theorem declE_qe (es : Ents) (b : ByteArray) (p : Int) : declE (qe es) (qs b) p = (declE es b p).map qe := by
  unfold declE
  rw [mget_qe, qe_len]
  cases mget es b with
  | some x => rfl
  | none =>
    simp only
    split
    · rfl
    · simp [Except.map, qe]

mutual
theorem letsT_qe : ∀ (t : Tree) (es : Ents), letsT (qe es) (turnT t) = (letsT es t).map qe
  | .mk k o n s ns ks p, es => by
    simp only [turnT, letsT]
    by_cases h21 : k = 21
    · subst h21
      simp only [true_or, or_true, if_true]
      exact declE_qe es s p
    · rw [if_neg h21, if_neg h21]
      by_cases hb : k = 28 ∨ k = 30 ∨ k = 29
      · rw [if_pos hb, if_pos hb]
        exact letsL_qe ks es
      · rw [if_neg hb, if_neg hb]
        rfl
theorem letsL_qe : ∀ (l : List Tree) (es : Ents), letsL (qe es) (turnsT l) = (letsL es l).map qe
  | [], es => rfl
  | t :: r, es => by
    simp only [turnsT, letsL, letsT_qe t es]
    cases letsT es t with
    | error f => rfl
    | ok es' => exact letsL_qe r es'
end

theorem declL_qe (p : Int) : ∀ (l : List ByteArray) (es : Ents), declL p (qe es) (l.map qs) = (declL p es l).map qe
  | [], es => rfl
  | b :: r, es => by
    simp only [List.map_cons, declL, declE_qe]
    cases declE es b p with
    | error f => rfl
    | ok es' => exact declL_qe p r es'

theorem findR_qe (whole : Ents) (own : Option Ents) (b : ByteArray) : findR (qe whole) (own.map qe) (qs b) = findR whole own b := by
  unfold findR
  cases own with
  | none => simp only [Option.map_none, Option.bind_none, mget_qe]
  | some es => simp only [Option.map_some, Option.bind_some, mget_qe]

mutual
theorem nodeR_qe : ∀ (t : Tree) (whole : Ents) (own : Option Ents) (fs : List FnR), nodeR (turnT t) (qe whole) (own.map qe) fs = nodeR t whole own fs
  | .mk k o n s ns ks p, whole, own, fs => by
    simp only [turnT, nodeR]
    by_cases h5 : k = 5
    · subst h5
      simp only [true_or, if_true, findR_qe]
    · rw [if_neg h5, if_neg h5]
      by_cases h8 : k = 8
      · subst h8
        simp only [if_true]
        have h1 := declL_qe p ns []
        have h1' : declL p [] (ns.map qs) = (declL p [] ns).map qe := h1
        rw [h1', List.length_map]
        cases declL p [] ns with
        | error f => rfl
        | ok es1 =>
          simp only [Except.map]
          rw [letsL_qe]
          cases letsL es1 ks with
          | error f => rfl
          | ok es2 =>
            simp only [Except.map]
            have h2 := nodesR_qe ks whole (some es2) (fs ++ [⟨ns.length, es2.length, none⟩])
            rw [Option.map_some] at h2
            rw [qe_len, h2]
      · rw [if_neg h8, if_neg h8, if_neg h8]
        rw [nodesR_qe ks whole own fs]
        by_cases hb : k = 21 ∨ k = 22
        · rw [if_pos hb, if_pos hb, if_pos (.inr hb), findR_qe]
        · rw [if_neg hb, if_neg hb, if_neg (fun h => h.elim h5 hb)]
theorem nodesR_qe : ∀ (l : List Tree) (whole : Ents) (own : Option Ents) (fs : List FnR), nodesR (turnsT l) (qe whole) (own.map qe) fs = nodesR l whole own fs
  | [], _, _, _ => rfl
  | t :: r, whole, own, fs => by
    simp only [turnsT, nodesR]
    rw [nodeR_qe t whole own fs]
    cases nodeR t whole own fs with
    | error f => rfl
    | ok q =>
      obtain ⟨t', fs1⟩ := q
      simp only
      rw [nodesR_qe r whole own fs1]
end

theorem turn_kids (t : Tree) : (turnT t).kids = turnsT t.kids := by cases t; rfl

theorem resolve_turn (t : Tree) (h1 : checkT t = 0) (h2 : checkT (turnT t) = 0) : resolveT (turnT t) = resolveT t := by
  unfold resolveT
  rw [if_pos h1, if_pos h2, turn_kids]
  have h3 : letsL [] (turnsT t.kids) = (letsL [] t.kids).map qe := letsL_qe t.kids []
  rw [h3]
  cases letsL [] t.kids with
  | error f => rfl
  | ok whole =>
    simp only [Except.map]
    have h4 := nodesR_qe t.kids whole none [⟨0, 0, none⟩]
    rw [Option.map_none] at h4
    rw [h4, qe_len]

end Go.Proofs.Ytceocfancfjdjaa
/- Trees of few nodes are small; what is resolved is small, and has all its bodies. No condition. -/
namespace Go.Proofs.Ytceocfancfjdjaa
open Go Go.RowKit

/-! ### few nodes -/
mutual
def Tree.tiny : Tree → Prop
  | .mk _ _ _ s ns ks _ => s.size ≤ 600 ∧ ns.length ≤ 60 ∧ (∀ x, x ∈ ns → x.size ≤ 100) ∧ ks.length ≤ 300 ∧ tinys ks
def tinys : List Tree → Prop
  | [] => True
  | t :: r => t.tiny ∧ tinys r
end

mutual
theorem leftT_tiny : ∀ (t : Tree) (m h : Int), 0 ≤ m → m ≤ 300 → 0 ≤ h → 0 ≤ leftT t m h → t.tiny ∧ heightT t ≤ h
  | .mk _ _ _ s ns ks _, m, h, hm, hm3, hh, hl => by
    simp only [leftT] at hl
    split at hl
    · omega
    · rename_i hc
      simp only [Bool.or_eq_true, beq_iff_eq, decide_eq_true_eq, not_or] at hc
      split at hl
      · omega
      · rename_i hc2
        have h1 := leftsT_tiny ks (m - 1) (h - 1) (by omega) (by omega) hl
        refine ⟨⟨by omega, by omega, fun x hx => ?_, by omega, h1.1⟩, by simp only [heightT]; omega⟩
        have h2 : ¬ (x.size : Int) > 100 := fun hgt => hc2 (List.any_eq_true.2 ⟨x, hx, by simpa using hgt⟩)
        omega
theorem leftsT_tiny : ∀ (l : List Tree) (m h : Int), m ≤ 300 → 0 ≤ h → 0 ≤ leftsT l m h → tinys l ∧ (l.length : Int) ≤ m ∧ heightsT l ≤ h
  | [], m, h, _, hh, hl => by
    simp only [leftsT] at hl
    exact ⟨trivial, by simpa using hl, by simpa [heightsT] using hh⟩
  | t :: r, m, h, hm3, hh, hl => by
    simp only [leftsT] at hl
    split at hl
    · rename_i hm
      have hle := leftT_le t m h hm
      have hge : 0 ≤ leftT t m h := by
        rcases Int.lt_or_le (leftT t m h) 0 with hlt | hge
        · rw [leftsT_neg r (by omega)] at hl
          omega
        · exact hge
      have h1 := leftT_tiny t m h hm hm3 hh hge
      have h2 := leftsT_tiny r (leftT t m h) h (by omega) hh hl
      refine ⟨⟨h1.1, h2.1⟩, by simp only [List.length_cons]; omega, ?_⟩
      simp only [heightsT]
      split <;> omega
    · omega
end

mutual
theorem tiny_small : ∀ (t : Tree), t.tiny → t.small ∧ t.roomy
  | .mk _ _ _ s ns ks _, ⟨h1, h2, h3, h4, h5⟩ => by
    have h6 := tinys_small ks h5
    exact ⟨⟨by omega, by omega, by omega, fun x hx => by have := h3 x hx; omega, h6.1⟩, by omega, by omega, h6.2⟩
theorem tinys_small : ∀ (l : List Tree), tinys l → smalls l ∧ Tree.roomy.roomies l
  | [], _ => ⟨trivial, trivial⟩
  | t :: r, ⟨h1, h2⟩ => ⟨⟨(tiny_small t h1).1, (tinys_small r h2).1⟩, (tiny_small t h1).2, (tinys_small r h2).2⟩
end

theorem qs_size (b : ByteArray) : (qs b).size = b.size + 1 := by
  unfold qs
  rw [ByteArray.size_append]
  show 1 + b.size = _
  omega

theorem turnsT_len (l : List Tree) : (turnsT l).length = l.length := by rw [turnsT_map, List.length_map]

mutual
theorem turn_small : ∀ (t : Tree), t.tiny → (turnT t).small ∧ (turnT t).roomy ∧ heightT (turnT t) = heightT t
  | .mk k _ _ s ns ks _, ⟨h1, h2, h3, h4, h5⟩ => by
    have h6 := turns_small ks h5
    have hl := turnsT_len ks
    have hs : (if k = 5 ∨ k = 21 ∨ k = 22 then qs s else s).size ≤ 601 := by
      split
      · rw [qs_size]; omega
      · omega
    have hn : (if k = 8 then ns.map qs else ns).length = ns.length := by
      split
      · rw [List.length_map]
      · rfl
    have hx : ∀ x, x ∈ (if k = 8 then ns.map qs else ns) → x.size ≤ 101 := by
      split
      · intro x hx
        obtain ⟨y, hy, rfl⟩ := List.mem_map.1 hx
        have := h3 y hy
        rw [qs_size]; omega
      · intro x hx
        have := h3 x hx
        omega
    refine ⟨⟨by omega, by omega, by omega, fun x hx' => by have := hx x hx'; omega, h6.1⟩, ⟨by omega, by omega, h6.2.1⟩, ?_⟩
    simp only [turnT, heightT, h6.2.2]
theorem turns_small : ∀ (l : List Tree), tinys l → smalls (turnsT l) ∧ Tree.roomy.roomies (turnsT l) ∧ heightsT (turnsT l) = heightsT l
  | [], _ => ⟨trivial, trivial, rfl⟩
  | t :: r, ⟨h1, h2⟩ => by
    have a := turn_small t h1
    have b := turns_small r h2
    exact ⟨⟨a.1, b.1⟩, ⟨a.2.1, b.2.1⟩, by simp only [turnsT, heightsT, a.2.2, b.2.2]⟩
end

/-! ### what is resolved -/
theorem nothing_small : nothing.size < 281474976710656 := by decide

theorem nameN_small (k x : Int) : (nameN k x).small := ⟨nothing_small, by simp, by simp, fun _ h => by simp at h, trivial⟩

theorem setBody_at (fs : List FnR) (f : FnR) (new : List FnR) (l : List Tree) : setBody (fs ++ f :: new) fs.length l = fs ++ { f with body := some l } :: new := by
  unfold setBody
  induction fs with
  | nil => simp
  | cons x r ih => simpa using ih

mutual
theorem nodeR_good : ∀ (t : Tree) (whole : Ents) (own : Option Ents) (fs : List FnR) (t' : Tree) (fs' : List FnR), t.small → nodeR t whole own fs = .ok (t', fs') → t'.small ∧ ∃ new, fs' = fs ++ new ∧ ∀ f, f ∈ new → f.good
  | .mk k o n s ns ks p, whole, own, fs, t', fs', hsm, h => by
    simp only [nodeR] at h
    split at h
    · split at h <;> cases h
      exact ⟨nameN_small _ _, [], by simp, fun f hf => by simp at hf⟩
    · split at h
      · split at h
        · cases h
        · split at h
          · cases h
          · split at h
            · cases h
            · split at h
              · cases h
              · rename_i ks' fs2 hn
                cases h
                obtain ⟨h1, h2, new, h3, h4⟩ := nodesR_good ks _ _ _ _ _ hsm.2.2.2.2 hn
                have e := congrArg (fun x => setBody x fs.length ks') h3
                simp only [List.append_assoc, List.singleton_append, setBody_at] at e
                refine ⟨nameN_small _ _, _, e, fun f hf => ?_⟩
                rcases List.mem_cons.1 hf with rfl | hf
                · exact ⟨ks', rfl, h1, by rw [h2]; exact hsm.2.2.1⟩
                · exact h4 f hf
      · split at h
        · split at h
          · cases h
          · split at h
            · cases h
            · rename_i ks' fs2 hn
              cases h
              obtain ⟨h1, h2, h3⟩ := nodesR_good ks _ _ _ _ _ hsm.2.2.2.2 hn
              exact ⟨⟨nothing_small, by simp, by rw [h2]; exact hsm.2.2.1, fun _ h => by simp at h, h1⟩, h3⟩
        · split at h
          · cases h
          · rename_i ks' fs2 hn
            cases h
            obtain ⟨h1, h2, h3⟩ := nodesR_good ks _ _ _ _ _ hsm.2.2.2.2 hn
            exact ⟨⟨hsm.1, hsm.2.1, by rw [h2]; exact hsm.2.2.1, hsm.2.2.2.1, h1⟩, h3⟩
theorem nodesR_good : ∀ (l : List Tree) (whole : Ents) (own : Option Ents) (fs : List FnR) (l' : List Tree) (fs' : List FnR), smalls l → nodesR l whole own fs = .ok (l', fs') → smalls l' ∧ l'.length = l.length ∧ ∃ new, fs' = fs ++ new ∧ ∀ f, f ∈ new → f.good
  | [], whole, own, fs, l', fs', hsm, h => by
    simp only [nodesR] at h
    cases h
    exact ⟨trivial, rfl, [], by simp, fun f hf => by simp at hf⟩
  | t :: r, whole, own, fs, l', fs', hsm, h => by
    simp only [nodesR] at h
    split at h
    · cases h
    · rename_i t1 fs1 h1
      split at h
      · cases h
      · rename_i r1 fs2 h2
        cases h
        obtain ⟨a1, new1, a2, a3⟩ := nodeR_good t _ _ _ _ _ hsm.1 h1
        obtain ⟨b1, b2, new2, b3, b4⟩ := nodesR_good r _ _ _ _ _ hsm.2 h2
        refine ⟨⟨a1, b1⟩, by simp [b2], new1 ++ new2, by rw [b3, a2, List.append_assoc], fun f hf => ?_⟩
        rcases List.mem_append.1 hf with hf | hf
        · exact a3 f hf
        · exact b4 f hf
end

theorem resolve_good (t : Tree) (hsm : t.small) : (∀ f, f ∈ (resolveT t).1.2 → f.good) ∧ (resolveT t).1.2.length ≤ 32 := by
  unfold resolveT
  split
  · split
    · exact ⟨fun f hf => by simp at hf, by simp⟩
    · split
      · exact ⟨fun f hf => by simp at hf, by simp⟩
      · rename_i ks' fs' hn
        obtain ⟨k, o, n, s, ns, ks, p⟩ := t
        simp only [Tree.kids] at hn
        have hlen := nodesR_len ks _ none _ _ _ (by decide) hn
        obtain ⟨h1, h2, new, h3, h4⟩ := nodesR_good ks _ _ _ _ _ hsm.2.2.2.2 hn
        refine ⟨fun f hf => ?_, by simp only [setBody_len]; exact hlen.2⟩
        simp only at hf
        have e := setBody_at [] ⟨0, 0, none⟩ new ks'
        simp only [List.nil_append, List.length_nil] at e
        rw [h3, List.singleton_append, e] at hf
        rcases List.mem_cons.1 hf with rfl | hf
        · exact ⟨ks', rfl, h1, by rw [h2]; exact hsm.2.2.1⟩
        · exact h4 f hf
  · exact ⟨fun f hf => by simp at hf, by simp⟩

end Go.Proofs.Ytceocfancfjdjaa
