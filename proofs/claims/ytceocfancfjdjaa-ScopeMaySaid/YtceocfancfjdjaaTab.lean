/- What the program's table of types says of the types that are used: sizes, offsets, zero values. No condition. -/
import Derived.Test.YtceocfancfjdjaaCore
namespace Go.Proofs.Ytceocfancfjdjaa
open Go Go.RowKit

/-- Is it a struct or an array, and of how many cells. -/
def tk : TypeId → Option (Bool × Nat)
  | 3 => some (false, 1)
  | 4 => some (false, 1)
  | 5 => some (false, 1)
  | 9 => some (false, 1)
  | 22 => some (false, 1)
  | 23 => some (false, 1)
  | 25 => some (true, 7)
  | 30 => some (false, 1)
  | 32 => some (true, 2)
  | 33 => some (false, 1)
  | 41 => some (true, 3)
  | 44 => some (true, 2)
  | 46 => some (false, 1)
  | 48 => some (false, 1)
  | 50 => some (true, 4)
  | 56 => some (true, 3)
  | 65 => some (false, 1)
  | 77 => some (true, 12)
  | _ => none

/-- A field's offset. -/
def toff : TypeId → Nat → Option Nat
  | 25, 0 => some 0
  | 25, 1 => some 1
  | 25, 2 => some 2
  | 25, 3 => some 3
  | 25, 4 => some 4
  | 25, 5 => some 5
  | 25, 6 => some 6
  | 32, 0 => some 0
  | 32, 1 => some 1
  | 41, 0 => some 0
  | 41, 1 => some 1
  | 41, 2 => some 2
  | 44, 0 => some 0
  | 44, 1 => some 1
  | 50, 0 => some 0
  | 50, 1 => some 2
  | 50, 2 => some 3
  | 56, 0 => some 0
  | 56, 1 => some 2
  | _, _ => none

/-- The cells of a slice's element. -/
def tel : TypeId → Option Nat
  | 22 => some 1
  | 23 => some 7
  | 30 => some 3
  | _ => none

theorem size_of_info {t k : Nat} (h : (Try.prog.info? t).map (·.size) = some k) (w : World) : (sizeOf t).run Try.prog w = .ok k w := by
  cases hi : Try.prog.info? t with
  | none => simp [hi] at h
  | some i =>
    simp [hi] at h
    simp [sizeOf, typeInfo, hi, h]

theorem info3 : (Try.prog.info? 3).map (·.size) = some 1 := by kernel_rfl
theorem info4 : (Try.prog.info? 4).map (·.size) = some 1 := by kernel_rfl
theorem info5 : (Try.prog.info? 5).map (·.size) = some 1 := by kernel_rfl
theorem info9 : (Try.prog.info? 9).map (·.size) = some 1 := by kernel_rfl
theorem info22 : (Try.prog.info? 22).map (·.size) = some 1 := by kernel_rfl
theorem info23 : (Try.prog.info? 23).map (·.size) = some 1 := by kernel_rfl
theorem info25 : (Try.prog.info? 25).map (·.size) = some 7 := by kernel_rfl
theorem info30 : (Try.prog.info? 30).map (·.size) = some 1 := by kernel_rfl
theorem info32 : (Try.prog.info? 32).map (·.size) = some 2 := by kernel_rfl
theorem info33 : (Try.prog.info? 33).map (·.size) = some 1 := by kernel_rfl
theorem info41 : (Try.prog.info? 41).map (·.size) = some 3 := by kernel_rfl
theorem info44 : (Try.prog.info? 44).map (·.size) = some 2 := by kernel_rfl
theorem info46 : (Try.prog.info? 46).map (·.size) = some 1 := by kernel_rfl
theorem info48 : (Try.prog.info? 48).map (·.size) = some 1 := by kernel_rfl
theorem info50 : (Try.prog.info? 50).map (·.size) = some 4 := by kernel_rfl
theorem info56 : (Try.prog.info? 56).map (·.size) = some 3 := by kernel_rfl
theorem info65 : (Try.prog.info? 65).map (·.size) = some 1 := by kernel_rfl
theorem info77 : (Try.prog.info? 77).map (·.size) = some 12 := by kernel_rfl

theorem tk_size {t : TypeId} {b : Bool} {k : Nat} (h : tk t = some (b, k)) (w : World) : (sizeOf t).run Try.prog w = .ok k w := by
  unfold tk at h
  split at h <;> cases h <;>
    first
      | exact size_of_info info3 w | exact size_of_info info4 w | exact size_of_info info5 w | exact size_of_info info9 w
      | exact size_of_info info22 w | exact size_of_info info23 w | exact size_of_info info25 w | exact size_of_info info30 w
      | exact size_of_info info32 w | exact size_of_info info33 w | exact size_of_info info41 w | exact size_of_info info44 w
      | exact size_of_info info46 w | exact size_of_info info48 w | exact size_of_info info50 w | exact size_of_info info56 w
      | exact size_of_info info65 w | exact size_of_info info77 w

theorem tk_agg {t : TypeId} {b : Bool} {k : Nat} (h : tk t = some (b, k)) (w : World) : (isAgg t).run Try.prog w = .ok b w := by
  unfold tk at h
  split at h <;> cases h <;>
    simp [isAgg, run_underlying Try.underlying3, run_underlying Try.underlying4, run_underlying Try.underlying5, run_underlying Try.underlying9,
      run_underlying Try.underlying22, run_underlying Try.underlying23, run_underlying Try.underlying25, run_underlying Try.underlying30,
      run_underlying Try.underlying32, run_underlying Try.underlying33, run_underlying Try.underlying41, run_underlying Try.underlying44,
      run_underlying Try.underlying46, run_underlying Try.underlying48, run_underlying Try.underlying50, run_underlying Try.underlying56,
      run_underlying Try.underlying65, run_underlying Try.underlying77]

theorem toff_ok {t k off : Nat} (h : toff t k = some off) (w : World) (b o : Nat) :
    (Instr.fieldAt t (.pointer (some ⟨b, o, none⟩)) k).run Try.prog w = .ok (.pointer (some ⟨b, o + off, none⟩)) w := by
  have hadd : ∀ n, (⟨b, o, none⟩ : Addr).add n = ⟨b, o + n, none⟩ := by intro n; unfold Addr.add; split <;> simp_all
  unfold toff at h
  split at h <;> cases h <;>
    simp [Instr.fieldAt, Instr.sureAddr, fieldPlace, run_underlying Try.underlying25, run_underlying Try.underlying32, run_underlying Try.underlying41,
      run_underlying Try.underlying44, run_underlying Try.underlying50, run_underlying Try.underlying56,
      size_of_info info3, size_of_info info9, size_of_info info22, size_of_info info23, size_of_info info30, size_of_info info32, size_of_info info33, size_of_info info48, hadd]

/-- What a slice's type is. -/
theorem tel_ok {t z : Nat} (h : tel t = some z) : ∃ e, Try.prog.underlying t = some (.slice e) ∧ ∀ w, (sizeOf e).run Try.prog w = .ok z w := by
  unfold tel at h
  split at h <;> cases h
  · exact ⟨_, Try.underlying22, size_of_info info9⟩
  · exact ⟨_, Try.underlying23, size_of_info info25⟩
  · exact ⟨_, Try.underlying30, size_of_info info41⟩

end Go.Proofs.Ytceocfancfjdjaa
