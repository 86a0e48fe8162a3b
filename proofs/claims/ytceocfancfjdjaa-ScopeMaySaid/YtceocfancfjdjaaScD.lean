/- (D) The scopes: a node's names are resolved, a function aside. No condition. -/
import Derived.Test.YtceocfancfjdjaaScC
namespace Go.Proofs.Ytceocfancfjdjaa
open Go Go.RowKit
attribute [local irreducible] ACalls AOps AOp AWp AWpL AThen AInBlock bodyQ seq DOps

theorem setBody_len (fs : List FnR) (i : Nat) (l : List Tree) : (setBody fs i l).length = fs.length := by simp [setBody]

mutual
theorem nodeR_len : ∀ (t : Tree) (whole : Ents) (own : Option Ents) (fs : List FnR) (t' : Tree) (fs' : List FnR), fs.length ≤ 32 → nodeR t whole own fs = .ok (t', fs') → fs.length ≤ fs'.length ∧ fs'.length ≤ 32
  | .mk k o n s ns ks p, whole, own, fs, t', fs', hle, h => by
    simp only [nodeR] at h
    split at h
    · split at h <;> cases h
      exact ⟨Nat.le_refl _, hle⟩
    · split at h
      · split at h
        · cases h
        · split at h
          · cases h
          · split at h
            · cases h
            · rename_i hne es1 _ es2 _
              split at h
              · cases h
              · rename_i ks' fs2 hn
                cases h
                have := nodesR_len ks _ _ _ _ _ (by simp; omega) hn
                simp at this
                rw [setBody_len]
                omega
      · split at h
        · split at h
          · cases h
          · split at h
            · cases h
            · rename_i ks' fs2 hn
              cases h
              exact nodesR_len ks _ _ _ _ _ hle hn
        · split at h
          · cases h
          · rename_i ks' fs2 hn
            cases h
            exact nodesR_len ks _ _ _ _ _ hle hn
theorem nodesR_len : ∀ (l : List Tree) (whole : Ents) (own : Option Ents) (fs : List FnR) (l' : List Tree) (fs' : List FnR), fs.length ≤ 32 → nodesR l whole own fs = .ok (l', fs') → fs.length ≤ fs'.length ∧ fs'.length ≤ 32
  | [], whole, own, fs, l', fs', hle, h => by
    simp only [nodesR] at h
    cases h
    exact ⟨Nat.le_refl _, hle⟩
  | t :: r, whole, own, fs, l', fs', hle, h => by
    simp only [nodesR] at h
    split at h
    · cases h
    · rename_i t1 fs1 h1
      split at h
      · cases h
      · rename_i r1 fs2 h2
        cases h
        have a := nodeR_len t _ _ _ _ _ hle h1
        have b := nodesR_len r _ _ _ _ _ a.2 h2
        omega
end

end Go.Proofs.Ytceocfancfjdjaa
