/- Names do not matter: a tree with each name turned resolves as the tree itself. No condition. -/
import Derived.Test.YtceocfancfjdjaaPlain1
import Derived.Test.YtceocfancfjdjaaTurn
import Derived.Test.YtceocfancfjdjaaResB
namespace Go.Proofs.Ytceocfancfjdjaa
open Go Go.RowKit

theorem qs_list (b : ByteArray) : (qs b).data.toList = 113 :: b.data.toList := by
  unfold qs
  rw [ByteArray.data_append]
  simp

theorem seq_qs (a b : ByteArray) : seq (qs a) (qs b) = seq a b := by
  unfold seq
  rw [qs_list, qs_list, List.cons_beq_cons]
  simp

def qe (es : Ents) : Ents := es.map fun p => (qs p.1, p.2)

theorem qe_len (es : Ents) : (qe es).length = es.length := by simp [qe]

theorem mget_qe (es : Ents) (b : ByteArray) : mget (qe es) (qs b) = mget es b := by
  induction es with
  | nil => rfl
  | cons p r ih =>
    obtain ⟨k, x⟩ := p
    show mget ((qs k, x) :: qe r) (qs b) = _
    simp only [mget, seq_qs, ih]

theorem declE_qe (es : Ents) (b : ByteArray) (p : Int) : declE (qe es) (qs b) p = (declE es b p).map qe := by
  unfold declE
  rw [mget_qe, qe_len]
  cases mget es b with
  | some x => rfl
  | none =>
    simp only
    split
    · rfl
    · simp [Except.map, qe]

mutual
theorem letsT_qe : ∀ (t : Tree) (es : Ents), letsT (qe es) (turnT t) = (letsT es t).map qe
  | .mk k o n s ns ks p, es => by
    simp only [turnT, letsT]
    by_cases h21 : k = 21
    · subst h21
      simp only [true_or, or_true, if_true]
      exact declE_qe es s p
    · rw [if_neg h21, if_neg h21]
      by_cases hb : k = 28 ∨ k = 30 ∨ k = 29
      · rw [if_pos hb, if_pos hb]
        exact letsL_qe ks es
      · rw [if_neg hb, if_neg hb]
        rfl
theorem letsL_qe : ∀ (l : List Tree) (es : Ents), letsL (qe es) (turnsT l) = (letsL es l).map qe
  | [], es => rfl
  | t :: r, es => by
    simp only [turnsT, letsL, letsT_qe t es]
    cases letsT es t with
    | error f => rfl
    | ok es' => exact letsL_qe r es'
end

theorem declL_qe (p : Int) : ∀ (l : List ByteArray) (es : Ents), declL p (qe es) (l.map qs) = (declL p es l).map qe
  | [], es => rfl
  | b :: r, es => by
    simp only [List.map_cons, declL, declE_qe]
    cases declE es b p with
    | error f => rfl
    | ok es' => exact declL_qe p r es'

theorem findR_qe (whole : Ents) (own : Option Ents) (b : ByteArray) : findR (qe whole) (own.map qe) (qs b) = findR whole own b := by
  unfold findR
  cases own with
  | none => simp only [Option.map_none, Option.bind_none, mget_qe]
  | some es => simp only [Option.map_some, Option.bind_some, mget_qe]

mutual
theorem nodeR_qe : ∀ (t : Tree) (whole : Ents) (own : Option Ents) (fs : List FnR), nodeR (turnT t) (qe whole) (own.map qe) fs = nodeR t whole own fs
  | .mk k o n s ns ks p, whole, own, fs => by
    simp only [turnT, nodeR]
    by_cases h5 : k = 5
    · subst h5
      simp only [true_or, if_true, findR_qe]
    · rw [if_neg h5, if_neg h5]
      by_cases h8 : k = 8
      · subst h8
        simp only [if_true]
        have h1 := declL_qe p ns []
        have h1' : declL p [] (ns.map qs) = (declL p [] ns).map qe := h1
        rw [h1', List.length_map]
        cases declL p [] ns with
        | error f => rfl
        | ok es1 =>
          simp only [Except.map]
          rw [letsL_qe]
          cases letsL es1 ks with
          | error f => rfl
          | ok es2 =>
            simp only [Except.map]
            have h2 := nodesR_qe ks whole (some es2) (fs ++ [⟨ns.length, es2.length, none⟩])
            rw [Option.map_some] at h2
            rw [qe_len, h2]
      · rw [if_neg h8, if_neg h8, if_neg h8]
        rw [nodesR_qe ks whole own fs]
        by_cases hb : k = 21 ∨ k = 22
        · rw [if_pos hb, if_pos hb, if_pos (.inr hb), findR_qe]
        · rw [if_neg hb, if_neg hb, if_neg (fun h => h.elim h5 hb)]
theorem nodesR_qe : ∀ (l : List Tree) (whole : Ents) (own : Option Ents) (fs : List FnR), nodesR (turnsT l) (qe whole) (own.map qe) fs = nodesR l whole own fs
  | [], _, _, _ => rfl
  | t :: r, whole, own, fs => by
    simp only [turnsT, nodesR]
    rw [nodeR_qe t whole own fs]
    cases nodeR t whole own fs with
    | error f => rfl
    | ok q =>
      obtain ⟨t', fs1⟩ := q
      simp only
      rw [nodesR_qe r whole own fs1]
end

theorem turn_kids (t : Tree) : (turnT t).kids = turnsT t.kids := by cases t; rfl

theorem resolve_turn (t : Tree) (h1 : checkT t = 0) (h2 : checkT (turnT t) = 0) : resolveT (turnT t) = resolveT t := by
  unfold resolveT
  rw [if_pos h1, if_pos h2, turn_kids]
  have h3 : letsL [] (turnsT t.kids) = (letsL [] t.kids).map qe := letsL_qe t.kids []
  rw [h3]
  cases letsL [] t.kids with
  | error f => rfl
  | ok whole =>
    simp only [Except.map]
    have h4 := nodesR_qe t.kids whole none [⟨0, 0, none⟩]
    rw [Option.map_none] at h4
    rw [h4, qe_len]

end Go.Proofs.Ytceocfancfjdjaa
