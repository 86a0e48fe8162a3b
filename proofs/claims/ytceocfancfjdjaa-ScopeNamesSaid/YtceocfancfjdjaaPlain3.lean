/- Trees of few nodes are small; what is resolved is small, and has all its bodies. No condition. -/
import Derived.Test.YtceocfancfjdjaaPlain2
import Derived.Test.YtceocfancfjdjaaSameU
namespace Go.Proofs.Ytceocfancfjdjaa
open Go Go.RowKit

/-! ### few nodes -/
mutual
def Tree.tiny : Tree → Prop
  | .mk _ _ _ s ns ks _ => s.size ≤ 600 ∧ ns.length ≤ 60 ∧ (∀ x, x ∈ ns → x.size ≤ 100) ∧ ks.length ≤ 300 ∧ tinys ks
def tinys : List Tree → Prop
  | [] => True
  | t :: r => t.tiny ∧ tinys r
end

mutual
theorem leftT_tiny : ∀ (t : Tree) (m h : Int), 0 ≤ m → m ≤ 300 → 0 ≤ h → 0 ≤ leftT t m h → t.tiny ∧ heightT t ≤ h
  | .mk _ _ _ s ns ks _, m, h, hm, hm3, hh, hl => by
    simp only [leftT] at hl
    split at hl
    · omega
    · rename_i hc
      simp only [Bool.or_eq_true, beq_iff_eq, decide_eq_true_eq, not_or] at hc
      split at hl
      · omega
      · rename_i hc2
        have h1 := leftsT_tiny ks (m - 1) (h - 1) (by omega) (by omega) hl
        refine ⟨⟨by omega, by omega, fun x hx => ?_, by omega, h1.1⟩, by simp only [heightT]; omega⟩
        have h2 : ¬ (x.size : Int) > 100 := fun hgt => hc2 (List.any_eq_true.2 ⟨x, hx, by simpa using hgt⟩)
        omega
theorem leftsT_tiny : ∀ (l : List Tree) (m h : Int), m ≤ 300 → 0 ≤ h → 0 ≤ leftsT l m h → tinys l ∧ (l.length : Int) ≤ m ∧ heightsT l ≤ h
  | [], m, h, _, hh, hl => by
    simp only [leftsT] at hl
    exact ⟨trivial, by simpa using hl, by simpa [heightsT] using hh⟩
  | t :: r, m, h, hm3, hh, hl => by
    simp only [leftsT] at hl
    split at hl
    · rename_i hm
      have hle := leftT_le t m h hm
      have hge : 0 ≤ leftT t m h := by
        rcases Int.lt_or_le (leftT t m h) 0 with hlt | hge
        · rw [leftsT_neg r (by omega)] at hl
          omega
        · exact hge
      have h1 := leftT_tiny t m h hm hm3 hh hge
      have h2 := leftsT_tiny r (leftT t m h) h (by omega) hh hl
      refine ⟨⟨h1.1, h2.1⟩, by simp only [List.length_cons]; omega, ?_⟩
      simp only [heightsT]
      split <;> omega
    · omega
end

mutual
theorem tiny_small : ∀ (t : Tree), t.tiny → t.small ∧ t.roomy
  | .mk _ _ _ s ns ks _, ⟨h1, h2, h3, h4, h5⟩ => by
    have h6 := tinys_small ks h5
    exact ⟨⟨by omega, by omega, by omega, fun x hx => by have := h3 x hx; omega, h6.1⟩, by omega, by omega, h6.2⟩
theorem tinys_small : ∀ (l : List Tree), tinys l → smalls l ∧ Tree.roomy.roomies l
  | [], _ => ⟨trivial, trivial⟩
  | t :: r, ⟨h1, h2⟩ => ⟨⟨(tiny_small t h1).1, (tinys_small r h2).1⟩, (tiny_small t h1).2, (tinys_small r h2).2⟩
end

theorem qs_size (b : ByteArray) : (qs b).size = b.size + 1 := by
  unfold qs
  rw [ByteArray.size_append]
  show 1 + b.size = _
  omega

theorem turnsT_len (l : List Tree) : (turnsT l).length = l.length := by rw [turnsT_map, List.length_map]

mutual
theorem turn_small : ∀ (t : Tree), t.tiny → (turnT t).small ∧ (turnT t).roomy ∧ heightT (turnT t) = heightT t
  | .mk k _ _ s ns ks _, ⟨h1, h2, h3, h4, h5⟩ => by
    have h6 := turns_small ks h5
    have hl := turnsT_len ks
    have hs : (if k = 5 ∨ k = 21 ∨ k = 22 then qs s else s).size ≤ 601 := by
      split
      · rw [qs_size]; omega
      · omega
    have hn : (if k = 8 then ns.map qs else ns).length = ns.length := by
      split
      · rw [List.length_map]
      · rfl
    have hx : ∀ x, x ∈ (if k = 8 then ns.map qs else ns) → x.size ≤ 101 := by
      split
      · intro x hx
        obtain ⟨y, hy, rfl⟩ := List.mem_map.1 hx
        have := h3 y hy
        rw [qs_size]; omega
      · intro x hx
        have := h3 x hx
        omega
    refine ⟨⟨by omega, by omega, by omega, fun x hx' => by have := hx x hx'; omega, h6.1⟩, ⟨by omega, by omega, h6.2.1⟩, ?_⟩
    simp only [turnT, heightT, h6.2.2]
theorem turns_small : ∀ (l : List Tree), tinys l → smalls (turnsT l) ∧ Tree.roomy.roomies (turnsT l) ∧ heightsT (turnsT l) = heightsT l
  | [], _ => ⟨trivial, trivial, rfl⟩
  | t :: r, ⟨h1, h2⟩ => by
    have a := turn_small t h1
    have b := turns_small r h2
    exact ⟨⟨a.1, b.1⟩, ⟨a.2.1, b.2.1⟩, by simp only [turnsT, heightsT, a.2.2, b.2.2]⟩
end

/-! ### what is resolved -/
theorem nothing_small : nothing.size < 281474976710656 := by decide

theorem nameN_small (k x : Int) : (nameN k x).small := ⟨nothing_small, by simp, by simp, fun _ h => by simp at h, trivial⟩

theorem setBody_at (fs : List FnR) (f : FnR) (new : List FnR) (l : List Tree) : setBody (fs ++ f :: new) fs.length l = fs ++ { f with body := some l } :: new := by
  unfold setBody
  induction fs with
  | nil => simp
  | cons x r ih => simpa using ih

mutual
theorem nodeR_good : ∀ (t : Tree) (whole : Ents) (own : Option Ents) (fs : List FnR) (t' : Tree) (fs' : List FnR), t.small → nodeR t whole own fs = .ok (t', fs') → t'.small ∧ ∃ new, fs' = fs ++ new ∧ ∀ f, f ∈ new → f.good
  | .mk k o n s ns ks p, whole, own, fs, t', fs', hsm, h => by
    simp only [nodeR] at h
    split at h
    · split at h <;> cases h
      exact ⟨nameN_small _ _, [], by simp, fun f hf => by simp at hf⟩
    · split at h
      · split at h
        · cases h
        · split at h
          · cases h
          · split at h
            · cases h
            · split at h
              · cases h
              · rename_i ks' fs2 hn
                cases h
                obtain ⟨h1, h2, new, h3, h4⟩ := nodesR_good ks _ _ _ _ _ hsm.2.2.2.2 hn
                have e := congrArg (fun x => setBody x fs.length ks') h3
                simp only [List.append_assoc, List.singleton_append, setBody_at] at e
                refine ⟨nameN_small _ _, _, e, fun f hf => ?_⟩
                rcases List.mem_cons.1 hf with rfl | hf
                · exact ⟨ks', rfl, h1, by rw [h2]; exact hsm.2.2.1⟩
                · exact h4 f hf
      · split at h
        · split at h
          · cases h
          · split at h
            · cases h
            · rename_i ks' fs2 hn
              cases h
              obtain ⟨h1, h2, h3⟩ := nodesR_good ks _ _ _ _ _ hsm.2.2.2.2 hn
              exact ⟨⟨nothing_small, by simp, by rw [h2]; exact hsm.2.2.1, fun _ h => by simp at h, h1⟩, h3⟩
        · split at h
          · cases h
          · rename_i ks' fs2 hn
            cases h
            obtain ⟨h1, h2, h3⟩ := nodesR_good ks _ _ _ _ _ hsm.2.2.2.2 hn
            exact ⟨⟨hsm.1, hsm.2.1, by rw [h2]; exact hsm.2.2.1, hsm.2.2.2.1, h1⟩, h3⟩
theorem nodesR_good : ∀ (l : List Tree) (whole : Ents) (own : Option Ents) (fs : List FnR) (l' : List Tree) (fs' : List FnR), smalls l → nodesR l whole own fs = .ok (l', fs') → smalls l' ∧ l'.length = l.length ∧ ∃ new, fs' = fs ++ new ∧ ∀ f, f ∈ new → f.good
  | [], whole, own, fs, l', fs', hsm, h => by
    simp only [nodesR] at h
    cases h
    exact ⟨trivial, rfl, [], by simp, fun f hf => by simp at hf⟩
  | t :: r, whole, own, fs, l', fs', hsm, h => by
    simp only [nodesR] at h
    split at h
    · cases h
    · rename_i t1 fs1 h1
      split at h
      · cases h
      · rename_i r1 fs2 h2
        cases h
        obtain ⟨a1, new1, a2, a3⟩ := nodeR_good t _ _ _ _ _ hsm.1 h1
        obtain ⟨b1, b2, new2, b3, b4⟩ := nodesR_good r _ _ _ _ _ hsm.2 h2
        refine ⟨⟨a1, b1⟩, by simp [b2], new1 ++ new2, by rw [b3, a2, List.append_assoc], fun f hf => ?_⟩
        rcases List.mem_append.1 hf with hf | hf
        · exact a3 f hf
        · exact b4 f hf
end

theorem resolve_good (t : Tree) (hsm : t.small) : (∀ f, f ∈ (resolveT t).1.2 → f.good) ∧ (resolveT t).1.2.length ≤ 32 := by
  unfold resolveT
  split
  · split
    · exact ⟨fun f hf => by simp at hf, by simp⟩
    · split
      · exact ⟨fun f hf => by simp at hf, by simp⟩
      · rename_i ks' fs' hn
        obtain ⟨k, o, n, s, ns, ks, p⟩ := t
        simp only [Tree.kids] at hn
        have hlen := nodesR_len ks _ none _ _ _ (by decide) hn
        obtain ⟨h1, h2, new, h3, h4⟩ := nodesR_good ks _ _ _ _ _ hsm.2.2.2.2 hn
        refine ⟨fun f hf => ?_, by simp only [setBody_len]; exact hlen.2⟩
        simp only at hf
        have e := setBody_at [] ⟨0, 0, none⟩ new ks'
        simp only [List.nil_append, List.length_nil] at e
        rw [h3, List.singleton_append, e] at hf
        rcases List.mem_cons.1 hf with rfl | hf
        · exact ⟨ks', rfl, h1, by rw [h2]; exact hsm.2.2.1⟩
        · exact h4 f hf
  · exact ⟨fun f hf => by simp at hf, by simp⟩

end Go.Proofs.Ytceocfancfjdjaa
