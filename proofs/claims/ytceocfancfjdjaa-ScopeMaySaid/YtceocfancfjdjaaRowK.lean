/- From what is read of an argument to the call of a law. No condition. -/
import Derived.Test.YtceocfancfjdjaaRead
namespace Go.Proofs.Ytceocfancfjdjaa
open Go Go.RowKit
open Go.ChangeShapes Go.WideShapes Go.ChangeAt

theorem own_knob : ownKnob Try.prog.godebug = none := by kernel_rfl
theorem laid_out : laidOutB Try.prog = true := by kernel_rfl
theorem readable25 : Try.prog.readableRec 25 = true := by kernel_rfl

/-- Nobody has made a block yet. -/
def rho0 : Rho := { f := fun _ _ => (0, 0), F := fun _ => False }

theorem rel0 (W : World) : Rel rho0 (ASt []) W := by
  refine ⟨fun o x hx => ?_, fun o o' x x' hx => ?_, fun b h => h.elim, fun b h => h.elim, fun i x hx => ?_⟩
  · cases o <;> simp [AS.get, ASt, look] at hx
  · cases o <;> simp [AS.get, ASt, look] at hx
  · simp [AS.get, ASt] at hx

theorem own0 (b : Nat) : ¬ OwnF rho0 (ASt []) b := by
  rintro (⟨o, x, hx, _⟩ | h)
  · cases o <;> simp [AS.get, ASt, look] at hx
  · exact h.elim

theorem agg_of {v : Value} (h : v.cells.toList.length = 7) : ∃ vs, v = .agg vs := by
  cases v <;> first | exact ⟨_, rfl⟩ | (simp [Value.cells] at h)

/-- From what is read of an argument to the call. -/
theorem law_calls {f : FuncId} (hlaw : ∀ t : Tree, t.small → ACalls f [t.cv] [] (fun r M' => r = .ret (.bool true) ∧ M' = [])) {H : Type} {enc : TypeId × Value → H} {W : World} {v0 : Value} {d0 : DataW H} {p : List MemPlace}
    (h0 : DataW.Trod enc Try.prog W 0 (fun _ => true) true 25 v0 d0 p) (hw : ∀ n, n ∈ d0.weights Try.prog 25 → n ≤ reachBytes) :
    Calls Try.prog f #[v0] W fun e W' => e = .returned (.bool true) ∧ Below W.heap.size W W' := by
  obtain ⟨fuel, hf⟩ := h0
  obtain ⟨t, hsm, hV⟩ := read_node (ρ := rho0) (W := W) (O := OwnF rho0 (ASt [])) (N := Ok (ASt [])) own0 fuel _ d0 p hf hw
  have h7 : v0.cells.toList.length = 7 := by rw [← hV.1, Tree.cells_length]
  obtain ⟨vs, rfl⟩ := agg_of h7
  have hVL : VL (VS rho0 (ASt []) W) [t.cv] (#[.agg vs] : Array Value).toList := by
    refine ⟨rfl, fun j c v hc hv => ?_⟩
    match j with
    | 0 =>
      simp at hc hv
      subst hc; subst hv
      exact .agg t.cells vs (by simpa [Value.cells] using hV.1) (fun j c v hc hv => hV.2 j c v hc (by simpa [Value.cells] using hv))
    | j + 1 => simp at hc
  refine ((hlaw t hsm).2 rho0 W _ (rel0 W) hVL).mono ?_
  rintro e W' ⟨r, M', ρ', ⟨rfl, rfl⟩, _, hres, hev⟩
  refine ⟨?_, hev.os, hev.tape, hev.output, hev.size, fun k hk => hev.frame k hk (fun h => own0 k (.inl h))⟩
  cases e with
  | returned v => cases hres; rfl
  | panicked ch => exact hres.elim
  | outgrown => exact hres.elim

end Go.Proofs.Ytceocfancfjdjaa
