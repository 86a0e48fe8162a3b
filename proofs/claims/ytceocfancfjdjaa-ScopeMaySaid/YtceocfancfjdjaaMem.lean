/- The operations that make blocks and write them. No condition. -/
import Derived.Test.YtceocfancfjdjaaRules
namespace Go.Proofs.Ytceocfancfjdjaa
open Go Go.RowKit

/-! ### rows that are written -/

def setK : List CV → Nat → List CV → Option (List CV)
  | r, 0, [] => some r
  | c :: r, n + 1, vs => match setK r n vs with
    | some l => some (c :: l)
    | none => none
  | _ :: r, 0, v :: vs => match setK r 0 vs with
    | some l => some (v :: l)
    | none => none
  | [], _, _ => none

theorem setK_spec : ∀ (r : List CV) (n : Nat) (vs l : List CV), setK r n vs = some l → n + vs.length ≤ r.length ∧ l = r.take n ++ vs ++ r.drop (n + vs.length) := by
  intro r
  induction r with
  | nil =>
    intro n vs l h
    cases n with
    | zero =>
      cases vs with
      | nil => simp [setK] at h; simp [h]
      | cons v vs => simp [setK] at h
    | succ n => simp [setK] at h
  | cons c r ih =>
    intro n vs l h
    cases n with
    | zero =>
      cases vs with
      | nil => simp [setK] at h; simp [h]
      | cons v vs =>
        simp only [setK] at h
        cases h' : setK r 0 vs with
        | none => simp [h'] at h
        | some l' =>
          have := ih 0 vs l' h'
          simp [h'] at h
          subst h
          simp at this ⊢
          exact ⟨by omega, this.2⟩
    | succ n =>
      simp only [setK] at h
      cases h' : setK r n vs with
      | none => simp [h'] at h
      | some l' =>
        have := ih n vs l' h'
        simp [h'] at h
        subst h
        simp at this ⊢
        refine ⟨by omega, ?_⟩
        rw [this.2, show n + 1 + vs.length = (n + vs.length) + 1 by omega]
        simp

theorem setK_of {r : List CV} {n : Nat} {vs : List CV} (h : n + vs.length ≤ r.length) : setK r n vs = some (r.take n ++ vs ++ r.drop (n + vs.length)) := by
  induction r generalizing n vs with
  | nil =>
    have hn : n = 0 := by simp at h; omega
    have hv : vs = [] := by cases vs with | nil => rfl | cons v vs => simp at h
    subst hn; subst hv; rfl
  | cons c r ih =>
    cases n with
    | zero =>
      cases vs with
      | nil => rfl
      | cons v vs => simp only [setK]; rw [ih (by simp at h ⊢; omega)]; simp
    | succ n =>
      simp only [setK]
      rw [ih (by simp at h ⊢; omega)]
      simp [show n + 1 + vs.length = (n + vs.length) + 1 by omega]

theorem VL.append {R : CV → Value → Prop} {a b : List CV} {x y : List Value} (h : VL R a x) (k : VL R b y) : VL R (a ++ b) (x ++ y) := by
  refine ⟨by simp [h.1, k.1], fun j c v hc hv => ?_⟩
  by_cases hj : j < a.length
  · rw [List.getElem?_append_left hj] at hc
    rw [List.getElem?_append_left (by have := h.1; omega)] at hv
    exact h.2 j c v hc hv
  · rw [List.getElem?_append_right (by omega)] at hc
    rw [List.getElem?_append_right (by have := h.1; omega)] at hv
    rw [← h.1] at hv
    exact k.2 _ c v hc hv

theorem VL.take {R : CV → Value → Prop} {a : List CV} {x : List Value} (h : VL R a x) (n : Nat) : VL R (a.take n) (x.take n) := by
  refine ⟨by simp [h.1], fun j c v hc hv => ?_⟩
  rw [List.getElem?_take] at hc hv
  split at hc
  · rename_i hj
    rw [if_pos hj] at hv
    exact h.2 j c v hc hv
  · cases hc

theorem VL.drop {R : CV → Value → Prop} {a : List CV} {x : List Value} (h : VL R a x) (n : Nat) : VL R (a.drop n) (x.drop n) := by
  refine ⟨by simp [h.1], fun j c v hc hv => ?_⟩
  rw [List.getElem?_drop] at hc hv
  exact h.2 _ c v hc hv

theorem VL.setK {R : CV → Value → Prop} {r vs l : List CV} {x y : List Value} {n : Nat} (h : VL R r x) (k : VL R vs y) (hl : setK r n vs = some l) :
    VL R l (x.take n ++ y ++ x.drop (n + y.length)) ∧ n + y.length ≤ x.length := by
  have hs := setK_spec r n vs l hl
  rw [hs.2]
  have h1 := h.1
  have h2 := k.1
  refine ⟨((h.take n).append k).append ?_, by omega⟩
  rw [← h2]
  exact h.drop _

/-- What may lie in one cell. -/
def ones : List CV → Bool
  | [] => true
  | c :: r => c.one && ones r

theorem ones_get {cs : List CV} (h : ones cs = true) {j : Nat} {c : CV} (hj : cs[j]? = some c) : c.one = true := by
  induction cs generalizing j with
  | nil => simp at hj
  | cons d r ih =>
    simp only [ones, Bool.and_eq_true] at h
    cases j with
    | zero => simp at hj; subst hj; exact h.1
    | succ j => exact ih h.2 (by simpa using hj)

theorem ones_append {a b : List CV} : ones (a ++ b) = (ones a && ones b) := by
  induction a with
  | nil => simp [ones]
  | cons c r ih => simp [ones, ih, Bool.and_assoc]

section
variable {n : Nat} {ρ : Rho} {s : AS} {w : World} {a : Act}

theorem V.one {O : Nat → Prop} {N : Nm → Nat → Prop} {c : CV} {v : Value} (h : V ρ w O N c v) (hc : c.one = true) : v.oneCell' = true := by
  cases h <;> simp_all [CV.one, Value.oneCell']

theorem VL.allOne {O : Nat → Prop} {N : Nm → Nat → Prop} {cs : List CV} {vs : List Value} (h : VL (V ρ w O N) cs vs) (hc : ones cs = true) : ∀ v ∈ vs, v.oneCell' = true := by
  intro v hv
  obtain ⟨j, hj⟩ := List.mem_iff_getElem?.1 hv
  have hlt : j < cs.length := by have := (List.getElem?_eq_some_iff.1 hj).1; have := h.1; omega
  have hg : cs[j]? = some cs[j] := List.getElem?_eq_getElem hlt
  exact (h.2 j cs[j] v hg hj).one (ones_get hc hg)

/-- What lies in a block as a variable. -/
def flat : CV → Bool
  | .agg cs => ones cs
  | c => c.one

theorem flat_ones {c : CV} (h : flat c = true) : ones c.cells = true := by
  cases c <;> simp_all [flat, CV.cells, ones, CV.one]

theorem V.cells {O : Nat → Prop} {N : Nm → Nat → Prop} {c : CV} {v : Value} (h : V ρ w O N c v) (hc : flat c = true) : VL (V ρ w O N) c.cells v.cells.toList := by
  have one : ∀ (c : CV) (v : Value), V ρ w O N c v → v.cells = #[v] → c.cells = [c] → VL (V ρ w O N) c.cells v.cells.toList := by
    intro c v h e1 e2
    rw [e1, e2]
    refine ⟨rfl, fun j c' v' hc' hv' => ?_⟩
    cases j with
    | zero => simp at hc' hv'; subst hc'; subst hv'; exact h
    | succ j => simp at hc'
  have h0 := h
  cases h <;> first
    | exact one _ _ h0 rfl rfl
    | (simp [flat, CV.one] at hc; done)
    | (rename_i hl hV; exact ⟨by simp [CV.cells, Value.cells, hl], fun j c' v' hc' hv' => hV j c' v' hc' (by simpa [Value.cells] using hv')⟩)

end

/-! ### zero values -/

def zstr : CV := .str ⟨#[]⟩
def z0 : CV := .int .i64 0

def tzero : TypeId → Option (List CV)
  | 3 => some [.int .i64 0]
  | 9 => some [.str ⟨#[]⟩]
  | 25 => some [.int .i64 0, .int .i64 0, .int .i64 0, .str ⟨#[]⟩, .nilslice, .nilslice, .int .i64 0]
  | 32 => some [.int .i64 0, .nilslice]
  | 33 => some [.int .i64 0]
  | 41 => some [.int .i64 0, .int .i64 0, .nilslice]
  | 44 => some [.int .i64 0, .int .i64 0]
  | 50 => some [.int .i64 0, .nilslice, .nilmap, .nilmap]
  | 77 => some [.str ⟨#[]⟩, .str ⟨#[]⟩, .str ⟨#[]⟩, .str ⟨#[]⟩, .str ⟨#[]⟩, .str ⟨#[]⟩, .str ⟨#[]⟩, .str ⟨#[]⟩, .str ⟨#[]⟩, .str ⟨#[]⟩, .str ⟨#[]⟩, .str ⟨#[]⟩]
  | _ => none

def zi : Value := .int .i64 0
def zs : Value := .string ⟨#[]⟩
def zl : Value := .slice none 0 0

theorem zfo3 : (Try.prog.info? 3).map (·.zero) = some (some (.int .i64 0)) := by kernel_rfl
theorem zfo9 : (Try.prog.info? 9).map (·.zero) = some (some (.string ⟨#[]⟩)) := by kernel_rfl
theorem zfo25 : (Try.prog.info? 25).map (·.zero) = some (some (.agg #[.int .i64 0, .int .i64 0, .int .i64 0, .string ⟨#[]⟩, .slice none 0 0, .slice none 0 0, .int .i64 0])) := by kernel_rfl
theorem zfo32 : (Try.prog.info? 32).map (·.zero) = some (some (.agg #[.int .i64 0, .slice none 0 0])) := by kernel_rfl
theorem zfo33 : (Try.prog.info? 33).map (·.zero) = some (some (.int .i64 0)) := by kernel_rfl
theorem zfo41 : (Try.prog.info? 41).map (·.zero) = some (some (.agg #[.int .i64 0, .int .i64 0, .slice none 0 0])) := by kernel_rfl
theorem zfo44 : (Try.prog.info? 44).map (·.zero) = some (some (.agg #[.int .i64 0, .int .i64 0])) := by kernel_rfl
theorem zfo50 : (Try.prog.info? 50).map (·.zero) = some (some (.agg #[.int .i64 0, .slice none 0 0, .map none, .map none])) := by kernel_rfl
theorem zfo77 : (Try.prog.info? 77).map (·.zero) = some (some (.agg #[.string ⟨#[]⟩, .string ⟨#[]⟩, .string ⟨#[]⟩, .string ⟨#[]⟩, .string ⟨#[]⟩, .string ⟨#[]⟩, .string ⟨#[]⟩, .string ⟨#[]⟩, .string ⟨#[]⟩, .string ⟨#[]⟩, .string ⟨#[]⟩, .string ⟨#[]⟩])) := by kernel_rfl

theorem zero_of_info {t : Nat} {z : Value} (h : (Try.prog.info? t).map (·.zero) = some (some z)) (w : World) : (zeroValue t).run Try.prog w = .ok z w := by
  cases hi : Try.prog.info? t with
  | none => simp [hi] at h
  | some i =>
    simp [hi] at h
    simp [zeroValue, typeInfo, hi, h]

/-- Values that say all of themselves. -/
def lit : Value → CV
  | v => cvOf v

theorem VL.lits {ρ : Rho} {w : World} {O : Nat → Prop} {N : Nm → Nat → Prop} : ∀ (vs : List Value), VL (V ρ w O N) (vs.map cvOf) vs := by
  intro vs
  refine ⟨by simp, fun j c v hc hv => ?_⟩
  simp [hv] at hc
  subst hc
  exact V.cvOf v

theorem tzero_ok {t : TypeId} {cs : List CV} (h : tzero t = some cs) : ∃ z : Value, (∀ w, (zeroValue t).run Try.prog w = .ok z w) ∧ cs = z.cells.toList.map cvOf := by
  unfold tzero at h
  split at h <;> cases h
  · exact ⟨_, zero_of_info zfo3, rfl⟩
  · exact ⟨_, zero_of_info zfo9, rfl⟩
  · exact ⟨_, zero_of_info zfo25, rfl⟩
  · exact ⟨_, zero_of_info zfo32, rfl⟩
  · exact ⟨_, zero_of_info zfo33, rfl⟩
  · exact ⟨_, zero_of_info zfo41, rfl⟩
  · exact ⟨_, zero_of_info zfo44, rfl⟩
  · exact ⟨_, zero_of_info zfo50, rfl⟩
  · exact ⟨_, zero_of_info zfo77, rfl⟩

section
variable {n : Nat} {Q : APost} {s : AS} {o : Oper} {K : AS → Prop}

/-- A new block that nobody will write: its row is told with the pointer. -/
theorem AOp.boxI {e : TypeId} {x : Operand} {cs : List CV} (ho : o.op = .box e x) (hcs : (s.ev x).cells = cs) (hf : flat (s.ev x) = true) (hn : pures cs = true)
    (hd : dstOk n o.dst = true) (k : K (s.put o.dst (.iptr cs 0))) : AOp Try.prog n o K Q s := by
  intro ρ w a hs
  have hv := (hs.ev x).cells hf
  rw [hcs] at hv
  have hg := Grew.alloc w (.cells (a.eval x).cells e)
  unfold Oper.wp
  have hr : (execOp a.eval o).run Try.prog w = .ok (.value (.pointer (some ⟨w.heap.size, 0, none⟩))) { w with heap := w.heap.push (.cells (a.eval x).cells e) } := by
    simp [execOp, ho, Instr.box, newVar, newRow]
  rw [hr]
  refine ⟨s.put o.dst (.iptr cs 0), ρ, k, (hg.sim hs).put hd ?_, hg.evol.put _ _⟩
  have := V.iptr (ρ := ρ) (w := { w with heap := w.heap.push (.cells (a.eval x).cells e) }) (O := OwnF ρ s) (N := Ok s) cs 0 w.heap.size 0 (a.eval x).cells e (0, 0)
    (by simp) (fun hO => by have := hs.rel.own_lt hO; omega) hn (by have := hv.1; simp at this; omega)
    (fun j c v hc hcur => hg.val (hv.2 j c v hc (by simpa using hcur)))
  simpa using this

/-- The state with one block more, of this frame alone. -/
def AS.addL (s : AS) (t : Nat) (x : AObj) : AS := { s with loc := (t, x) :: s.loc }
/-- The state with one block more. -/
def AS.addG (s : AS) (x : AObj) : AS := { s with M := s.M ++ [x] }

def setRho (ρ : Rho) (o : Nm) (k : Nat) (p : Nat × Nat) : Rho := { f := fun o' k' => if o' = o ∧ k' = k then p else ρ o' k', F := ρ.F }

theorem setRho_same (ρ : Rho) (o : Nm) (k : Nat) (p : Nat × Nat) : (setRho ρ o k p) o k = p := by simp [setRho]

/-- What may stand under a name. -/
def glOk : Nm → AObj → Bool
  | .l _, _ => true
  | .g _, x => x.noL

theorem glOk_spec {o : Nm} {x : AObj} (h : glOk o x = true) : ∀ i, o = .g i → x.noL = true := by
  intro i e; subst e; exact h

theorem getL (s : AS) (t : Nat) (x : AObj) (o' : Nm) : (s.addL t x).get o' = if o' = .l t then some x else s.get o' := by
  cases o' with
  | l t' =>
    show look ((t, x) :: s.loc) t' = _
    rw [look_cons]
    by_cases h : t = t'
    · simp [h]
    · simp [h, AS.get, Ne.symm h]
  | g i => simp [AS.get, AS.addL]

theorem getG (s : AS) (x : AObj) (o' : Nm) : (s.addG x).get o' = if o' = .g s.M.length then some x else s.get o' := by
  cases o' with
  | l t' => simp [AS.get, AS.addG]
  | g i =>
    show (s.M ++ [x])[i]? = _
    by_cases h : i = s.M.length
    · simp [h]
    · by_cases hi : i < s.M.length
      · simp [List.getElem?_append_left hi, h, AS.get]
      · simp [h, AS.get, List.getElem?_eq_none (show s.M.length ≤ i by omega)]
        omega

theorem Turn.fresh {ρ : Rho} {w : World} {s' : AS} {nm : Nm} {x : AObj} (hnone : s.get nm = none) (hget : ∀ o', s'.get o' = if o' = nm then some x else s.get o')
    (ob : Obj) (cap : Nat) : Turn ρ s w (setRho ρ nm x.ver (w.heap.size, cap)) s' { w with heap := w.heap.push ob } nm x := by
  refine ⟨rfl, rfl, rfl, rfl, by simp, fun o' ho => by simp [hget, ho], by simp [hget], fun y hy => by simp [hnone] at hy, ?_, .inr (by simp [setRho]), ?_⟩
  · intro o' k hk
    obtain ⟨y, hy, _⟩ := hk
    have hne : o' ≠ nm := fun e => by subst e; simp [hnone] at hy
    simp [setRho, hne]
  · intro b hb _
    simp [Array.getElem?_push]; omega

/-- A new variable, of this frame alone or not. -/
theorem AOp.new {t : TypeId} {cs : List CV} {s' : AS} {nm : Nm} (hnone : s.get nm = none) (hget : ∀ o', s'.get o' = if o' = nm then some (.box cs) else s.get o')
    (hfr : s'.fr = s.fr) (hds : s'.ds = s.ds) (hgl : glOk nm (.box cs) = true)
    (hrun : ∀ ρ w a, Sim n ρ s w a → ∃ vs : Array Value, VL (VS ρ s w) cs vs.toList ∧
      (execOp a.eval o).run Try.prog w = .ok (.value (.pointer (some ⟨w.heap.size, 0, none⟩))) { w with heap := w.heap.push (.cells vs t) })
    (hd : dstOk n o.dst = true) (k : K (s'.put o.dst (.ptr nm 0 0))) : AOp Try.prog n o K Q s := by
  intro ρ w a hs
  obtain ⟨vs, hV, hr⟩ := hrun ρ w a hs
  have ht := Turn.fresh (ρ := ρ) (w := w) (x := .box cs) hnone hget (.cells vs t) 0
  unfold Oper.wp
  rw [hr]
  have hsim := ht.sim hs hfr hds ⟨vs, t, by simp [setRho, AObj.ver], hV.1, fun j c v hc hv => ht.val (hV.2 j c v hc hv)⟩ (glOk_spec hgl)
  refine ⟨s'.put o.dst (.ptr nm 0 0), _, k, hsim.put hd ?_, ht.evol.put _ _⟩
  have h := V.ptr (ρ := setRho ρ nm 0 (w.heap.size, 0)) (w := { w with heap := w.heap.push (.cells vs t) }) (O := OwnF (setRho ρ nm 0 (w.heap.size, 0)) s') (N := Ok s') nm 0 0 ⟨_, ht.new, Nat.zero_le _⟩
  rw [setRho_same] at h
  exact h

theorem run_alloc {ρ : Rho} {w : World} {a : Act} {t : TypeId} {cs : List CV} (ho : o.op = .alloc t) (hz : tzero t = some cs) : ∃ vs : Array Value, VL (VS ρ s w) cs vs.toList ∧
      (execOp a.eval o).run Try.prog w = .ok (.value (.pointer (some ⟨w.heap.size, 0, none⟩))) { w with heap := w.heap.push (.cells vs t) } := by
  obtain ⟨z, hzr, rfl⟩ := tzero_ok hz
  exact ⟨z.cells, VL.lits _, by simp [execOp, ho, Instr.alloc, hzr, newVar, newRow]⟩

theorem run_box {ρ : Rho} {w : World} {a : Act} (hs : Sim n ρ s w a) {t : TypeId} {x : Operand} {cs : List CV} (ho : o.op = .box t x) (hcs : (s.ev x).cells = cs) (hf : flat (s.ev x) = true) :
    ∃ vs : Array Value, VL (VS ρ s w) cs vs.toList ∧
      (execOp a.eval o).run Try.prog w = .ok (.value (.pointer (some ⟨w.heap.size, 0, none⟩))) { w with heap := w.heap.push (.cells vs t) } :=
  ⟨(a.eval x).cells, hcs ▸ (hs.ev x).cells hf, by simp [execOp, ho, Instr.box, newVar, newRow]⟩

/-- 'alloc', a variable of this frame alone. -/
theorem AOp.allocL {t d : Nat} {cs : List CV} (ho : o.op = .alloc t) (hdst : o.dst = some d) (hz : tzero t = some cs) (hnew : look s.loc d = none) (hd : Nat.blt d n = true)
    (k : K ((s.addL d (.box cs)).put (some d) (.ptr (.l d) 0 0))) : AOp Try.prog n o K Q s := by
  refine AOp.new (t := t) (s' := s.addL d (.box cs)) (nm := .l d) hnew (getL s d _) rfl rfl rfl (fun ρ w a hs => run_alloc ho hz) (by rw [hdst]; exact hd) (by rw [hdst]; exact k)

theorem AOp.allocG {t : Nat} {cs : List CV} (ho : o.op = .alloc t) (hz : tzero t = some cs) (hn : noLs cs = true) (hd : dstOk n o.dst = true)
    (k : K ((s.addG (.box cs)).put o.dst (.ptr (.g s.M.length) 0 0))) : AOp Try.prog n o K Q s :=
  AOp.new (t := t) (s' := s.addG (.box cs)) (nm := .g s.M.length) (by simp [AS.get]) (getG s _) rfl rfl hn (fun ρ w a hs => run_alloc ho hz) hd k

theorem AOp.boxG {t : Nat} {x : Operand} {cs : List CV} (ho : o.op = .box t x) (hcs : (s.ev x).cells = cs) (hf : flat (s.ev x) = true) (hn : noLs cs = true) (hd : dstOk n o.dst = true)
    (k : K ((s.addG (.box cs)).put o.dst (.ptr (.g s.M.length) 0 0))) : AOp Try.prog n o K Q s :=
  AOp.new (t := t) (s' := s.addG (.box cs)) (nm := .g s.M.length) (by simp [AS.get]) (getG s _) rfl rfl hn (fun ρ w a hs => run_box hs ho hcs hf) hd k

theorem AOp.boxL {t d : Nat} {x : Operand} {cs : List CV} (ho : o.op = .box t x) (hdst : o.dst = some d) (hcs : (s.ev x).cells = cs) (hf : flat (s.ev x) = true) (hnew : look s.loc d = none)
    (hd : Nat.blt d n = true) (k : K ((s.addL d (.box cs)).put (some d) (.ptr (.l d) 0 0))) : AOp Try.prog n o K Q s :=
  AOp.new (t := t) (s' := s.addL d (.box cs)) (nm := .l d) hnew (getL s d _) rfl rfl rfl (fun ρ w a hs => run_box hs ho hcs hf) (by rw [hdst]; exact hd) (by rw [hdst]; exact k)

end
end Go.Proofs.Ytceocfancfjdjaa
