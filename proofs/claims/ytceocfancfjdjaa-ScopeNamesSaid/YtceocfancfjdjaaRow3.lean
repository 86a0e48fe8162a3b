/- ScopeNames: for every tree it answers true, and the tree reads as it did. No condition. -/
import Derived.Test.YtceocfancfjdjaaRows
import Derived.Test.YtceocfancfjdjaaRead
import Derived.Test.YtceocfancfjdjaaLaw3
namespace Go.Proofs.Ytceocfancfjdjaa
open Go Go.RowKit
open Go.ChangeShapes Go.WideShapes Go.ChangeAt

theorem own_knob : ownKnob Try.prog.godebug = none := by kernel_rfl
theorem laid_out : laidOutB Try.prog = true := by kernel_rfl
theorem readable25 : Try.prog.readableRec 25 = true := by kernel_rfl

/-- Nobody has made a block yet. -/
def rho0 : Rho := { f := fun _ _ => (0, 0), F := fun _ => False }

theorem rel0 (W : World) : Rel rho0 (ASt []) W := by
  refine ⟨fun o x hx => ?_, fun o o' x x' hx => ?_, fun b h => h.elim, fun b h => h.elim, fun i x hx => ?_⟩
  · cases o <;> simp [AS.get, ASt, look] at hx
  · cases o <;> simp [AS.get, ASt, look] at hx
  · simp [AS.get, ASt] at hx

theorem own0 (b : Nat) : ¬ OwnF rho0 (ASt []) b := by
  rintro (⟨o, x, hx, _⟩ | h)
  · cases o <;> simp [AS.get, ASt, look] at hx
  · exact h.elim

theorem agg_of {v : Value} (h : v.cells.toList.length = 7) : ∃ vs, v = .agg vs := by
  cases v <;> first | exact ⟨_, rfl⟩ | (simp [Value.cells] at h)

/-- From what is read of an argument to the call. -/
theorem law_calls {f : FuncId} (hlaw : ∀ t : Tree, t.small → ACalls f [t.cv] [] (fun r M' => r = .ret (.bool true) ∧ M' = [])) {H : Type} {enc : TypeId × Value → H} {W : World} {v0 : Value} {d0 : DataW H} {p : List MemPlace}
    (h0 : DataW.Trod enc Try.prog W 0 (fun _ => true) true 25 v0 d0 p) (hw : ∀ n, n ∈ d0.weights Try.prog 25 → n ≤ reachBytes) :
    Calls Try.prog f #[v0] W fun e W' => e = .returned (.bool true) ∧ Below W.heap.size W W' := by
  obtain ⟨fuel, hf⟩ := h0
  obtain ⟨t, hsm, hV⟩ := read_node (ρ := rho0) (W := W) (O := OwnF rho0 (ASt [])) (N := Ok (ASt [])) own0 fuel _ d0 p hf hw
  have h7 : v0.cells.toList.length = 7 := by rw [← hV.1, Tree.cells_length]
  obtain ⟨vs, rfl⟩ := agg_of h7
  have hVL : VL (VS rho0 (ASt []) W) [t.cv] (#[.agg vs] : Array Value).toList := by
    refine ⟨rfl, fun j c v hc hv => ?_⟩
    match j with
    | 0 =>
      simp at hc hv
      subst hc; subst hv
      exact .agg t.cells vs (by simpa [Value.cells] using hV.1) (fun j c v hc hv => hV.2 j c v hc (by simpa [Value.cells] using hv))
    | j + 1 => simp at hc
  refine ((hlaw t hsm).2 rho0 W _ (rel0 W) hVL).mono ?_
  rintro e W' ⟨r, M', ρ', ⟨rfl, rfl⟩, _, hres, hev⟩
  refine ⟨?_, hev.os, hev.tape, hev.output, hev.size, fun k hk => hev.frame k hk (fun h => own0 k (.inl h))⟩
  cases e with
  | returned v => cases hres; rfl
  | panicked ch => exact hres.elim
  | outgrown => exact hres.elim

set_option maxRecDepth 100000 in
theorem names_lifted (os : Os) (started : os.Started) (H : Type) (enc : TypeId × Value → H) :
    ReturnsInHanded {} Try.checked os 3 .any (Rows.scopeNamesSpec.pre6 enc Try.prog Try.f3 Rows.scopeNamesRow.domain false) (Rows.scopeNamesSpec.post enc Try.prog Try.f3 false true false false) := by
  refine returnsInHanded_of_change_sized (C := Try.checked) own_knob started (by kernel_rfl) Try.func3
    (ChangeSpec.witness6 (enc := enc) (C := Try.checked) false ⟨#[], #[.agg #[.int .i64 0, .int .i64 0, .int .i64 0, .string ⟨#[]⟩, .slice none 0 0, .slice none 0 0, .int .i64 0]], []⟩ 8 (by kernel_rfl) (by kernel_rfl) (by kernel_rfl) (by kernel_rfl)) ?_
  intro W base args ds gs before hval0 hW hcnd0 hsz0 _
  have hsz : (DataW.weightsEach Try.prog (Try.f3.params.toList ++ Rows.scopeNamesSpec.plain.varTypes Try.prog) (ds ++ gs)).all (· ≤ reachBytes) = true := hsz0
  have hW' := hW
  obtain ⟨p, q, hA0, hV, rfl, hfz, hnd⟩ := hW
  have hA : DataW.TrodAll enc Try.prog W 0 (fun _ => true) true Try.f3.params.toList args.toList ds p := hA0
  rw [Try.params3] at hA hsz
  obtain ⟨v0, d0, rfl, rfl, h0⟩ := trodAll_one hA
  obtain ⟨rfl, rfl⟩ := trodVars_none hV
  simp only [List.append_nil] at hW'
  have hw : ∀ n, n ∈ d0.weights Try.prog 25 → n ≤ reachBytes := fun n hn => by
    have := List.all_eq_true.1 hsz n (DataW.weights_mem_each (j := 0) (t := 25) (d := d0) rfl rfl n hn)
    simpa using this
  have hlt : ∀ x ∈ p, x.block < W.heap.size := fun x hx => hW'.lt x hx
  refine (law_calls names_law h0 hw).mono fun e W' ⟨he, hB⟩ => ?_
  subst he
  refine ⟨_, rfl, _, _, _, [], p, [], hW', ?_, ?_, rfl, hB.frame _, fun h => by cases h⟩
  · exact trodAll_mk1 (show DataW.Trod enc Try.prog W' _ _ _ 4 (.bool true) (.lit (.bool true)) [] from ⟨1, by simp [DataW.trod, Value.cells, Try.underlying4]⟩)
  · exact trodAll_mk1 (Below.trod laid_out readable25 (of_decide_eq_true (by kernel_rfl)) h0 hB hlt)

theorem names_holds : Rows.ScopeNamesSaid :=
  OpenClaim.holds_of_wide 3 Try.f3 rfl rfl rfl rfl rfl rfl rfl ⟨rfl, rfl, rfl, rfl, rfl⟩ rfl rfl rfl rfl rfl (by kernel_rfl) Try.func3 (by kernel_rfl)
    (of_decide_eq_true (by kernel_rfl)) (by unfold Func.isWrapper; first | (rw [if_pos (by decide +kernel)]; kernel_rfl) | (rw [if_neg (by decide +kernel)]; exact ⟨rfl, rfl⟩))
    (fun os started H enc _ => names_lifted os started H enc)

#print axioms names_holds
end Go.Proofs.Ytceocfancfjdjaa
