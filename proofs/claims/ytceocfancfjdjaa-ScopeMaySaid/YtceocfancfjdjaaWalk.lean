/- Rules in the form in which texts are gone through. No condition. -/
import Derived.Test.YtceocfancfjdjaaCall
namespace Go.Proofs.Ytceocfancfjdjaa
open Go Go.RowKit

/-- A value whose head stands open. -/
def headO : Option CV → Option CV
  | some (.int k n) => some (.int k n)
  | some (.bool true) => some (.bool true)
  | some (.bool false) => some (.bool false)
  | some (.str b) => some (.str b)
  | some (.ptr o v f) => some (.ptr o v f)
  | some (.iptr r f) => some (.iptr r f)
  | some .nilslice => some .nilslice
  | some (.islice r l) => some (.islice r l)
  | some (.mslice o v l) => some (.mslice o v l)
  | some (.map o) => some (.map o)
  | some .nilmap => some .nilmap
  | some (.func f c) => some (.func f c)
  | some .nilIface => some .nilIface
  | some (.iface t c) => some (.iface t c)
  | some (.agg c) => some (.agg c)
  | some (.tuple c) => some (.tuple c)
  | some .undef => some .undef
  | none => none

theorem headO_eq (c : Option CV) : headO c = c := by
  cases c with
  | none => rfl
  | some c =>
    cases c with
    | bool b => cases b <;> rfl
    | _ => rfl

section
variable {n : Nat} {ops : Array Oper} {Q : APost} {o : Oper} {rest : List Oper} {K : AS → Prop}
variable {fr : List (Nat × CV)} {loc : List (Nat × AObj)} {M : List AObj} {ds : List CV} {d : Nat}

theorem AThen.normal {K : AS → Prop} {s : AS} (h : K s) : AThen K Q .normal s := h
theorem AThen.exit {K : AS → Prop} {s : AS} {i : Nat} (h : Q (.exit i) s) : AThen K Q (.exit i) s := h
theorem AThen.ret {K : AS → Prop} {s : AS} (h : Q .ret s) : AThen K Q .ret s := h
theorem AThen.pan {K : AS → Prop} {s : AS} {c : CV} (h : Q (.pan c) s) : AThen K Q (.pan c) s := h
theorem AInBlock.normal {s : AS} {i : Nat} (h : Q .normal s) : AInBlock i Q .normal s := h
theorem AInBlock.ret {s : AS} {i : Nat} (h : Q .ret s) : AInBlock i Q .ret s := h
theorem AInBlock.pan {s : AS} {i : Nat} {c : CV} (h : Q (.pan c) s) : AInBlock i Q (.pan c) s := h
theorem AInBlock.same {s : AS} {i : Nat} (h : Q .normal s) : AInBlock i Q (.exit i) s := by simp only [AInBlock, if_true]; exact h
theorem AInBlock.other {s : AS} {i j : Nat} (hn : Nat.beq j i = false) (h : Q (.exit j) s) : AInBlock i Q (.exit j) s := by
  have : ¬ j = i := fun e => by subst e; simp at hn
  simp only [AInBlock, this, if_false]; exact h

theorem AWp.condT {c : Operand} {x y : Code} {s : AS} (hc : s.ev c = .bool true) (h : AWp Try.prog n x Q s) : AWp Try.prog n (.cond c x y) Q s := AWp.cond hc h
theorem AWp.condF {c : Operand} {x y : Code} {s : AS} (hc : s.ev c = .bool false) (h : AWp Try.prog n y Q s) : AWp Try.prog n (.cond c x y) Q s := AWp.cond hc h

def isCmp : Op → Bool
  | .binOp .eql _ _ _ _ => true
  | .binOp .neq _ _ _ _ => true
  | .binOp .lss _ _ _ _ => true
  | .binOp .leq _ _ _ _ => true
  | .binOp .gtr _ _ _ _ => true
  | .binOp .geq _ _ _ _ => true
  | _ => false

/-- An operation that reads. -/
theorem W.pure {c : CV} (hdst : o.dst = some d) (h : headO (pstep { fr := fr, loc := loc, M := M, ds := ds } o.op) = some c) (hd : Nat.blt d n = true)
    (k : K { fr := (d, c) :: fr, loc := loc, M := M, ds := ds }) : AOp Try.prog n o K Q { fr := fr, loc := loc, M := M, ds := ds } := by
  rw [headO_eq] at h
  exact AOp.pure h (by rw [hdst]; exact hd) (by rw [hdst]; exact k)

/-- A test: both ways. -/
theorem W.cmp {e : Bool} (_hc : isCmp o.op = true) (hdst : o.dst = some d) (h : pstep { fr := fr, loc := loc, M := M, ds := ds } o.op = some (.bool e)) (hd : Nat.blt d n = true)
    (kt : e = true → K { fr := (d, .bool true) :: fr, loc := loc, M := M, ds := ds }) (kf : e = false → K { fr := (d, .bool false) :: fr, loc := loc, M := M, ds := ds }) :
    AOp Try.prog n o K Q { fr := fr, loc := loc, M := M, ds := ds } := by
  cases e
  · exact AOp.pure h (by rw [hdst]; exact hd) (by rw [hdst]; exact kf rfl)
  · exact AOp.pure h (by rw [hdst]; exact hd) (by rw [hdst]; exact kt rfl)

/-- A test whose answer is known. -/
theorem W.cmpT {e : Bool} (_hc : isCmp o.op = true) (hdst : o.dst = some d) (h : pstep { fr := fr, loc := loc, M := M, ds := ds } o.op = some (.bool e)) (hd : Nat.blt d n = true)
    (he : e = true) (k : K { fr := (d, .bool true) :: fr, loc := loc, M := M, ds := ds }) : AOp Try.prog n o K Q { fr := fr, loc := loc, M := M, ds := ds } := by
  subst he
  exact AOp.pure h (by rw [hdst]; exact hd) (by rw [hdst]; exact k)

theorem W.cmpF {e : Bool} (_hc : isCmp o.op = true) (hdst : o.dst = some d) (h : pstep { fr := fr, loc := loc, M := M, ds := ds } o.op = some (.bool e)) (hd : Nat.blt d n = true)
    (he : e = false) (k : K { fr := (d, .bool false) :: fr, loc := loc, M := M, ds := ds }) : AOp Try.prog n o K Q { fr := fr, loc := loc, M := M, ds := ds } := by
  subst he
  exact AOp.pure h (by rw [hdst]; exact hd) (by rw [hdst]; exact k)

theorem W.leave {j : Nat} {b : Bool} (hg : o.guard = some (j, b)) (hb : gskip (gval ops { fr := fr, loc := loc, M := M, ds := ds } j) b = true) (hdst : o.dst = some d) (hd : Nat.blt d n = true)
    (h : AOps Try.prog n ops Q rest { fr := (d, .tuple []) :: fr, loc := loc, M := M, ds := ds }) : AOps Try.prog n ops Q (o :: rest) { fr := fr, loc := loc, M := M, ds := ds } :=
  AOps.leave hg hb (by rw [hdst]; exact hd) (by rw [hdst]; exact h)

/-- A variable that nobody writes. -/
theorem W.boxI {e : TypeId} {x : Operand} {cs : List CV} (ho : o.op = .box e x) (hdst : o.dst = some d) (hcs : (AS.ev { fr := fr, loc := loc, M := M, ds := ds } x).cells = cs)
    (hf : flat (AS.ev { fr := fr, loc := loc, M := M, ds := ds } x) = true) (hn : pures cs = true) (hd : Nat.blt d n = true)
    (k : K { fr := (d, .iptr cs 0) :: fr, loc := loc, M := M, ds := ds }) : AOp Try.prog n o K Q { fr := fr, loc := loc, M := M, ds := ds } :=
  AOp.boxI ho hcs hf hn (by rw [hdst]; exact hd) (by rw [hdst]; exact k)

/-- A call that answers a bool and leaves all as it was: both ways. -/
theorem W.callB {c : Call} {x : Operand} {f : FuncId} {cap args : List CV} {b : Bool} (ho : o.op = .call c) (hc : c.callee = .value x) (hx : AS.ev { fr := fr, loc := loc, M := M, ds := ds } x = .func f cap)
    (hargs : c.args.toList.map (AS.ev { fr := fr, loc := loc, M := M, ds := ds }) ++ cap = args) (hdst : o.dst = some d) (hcall : ACalls f args M (fun r M' => r = .ret (.bool b) ∧ M' = M))
    (hn : noLs args = true) (hd : Nat.blt d n = true)
    (kt : b = true → K { fr := (d, .bool true) :: fr, loc := loc, M := M, ds := ds }) (kf : b = false → K { fr := (d, .bool false) :: fr, loc := loc, M := M, ds := ds }) :
    AOp Try.prog n o K Q { fr := fr, loc := loc, M := M, ds := ds } := by
  refine AOp.call ho hc hx hargs hn hcall (by rw [hdst]; exact hd) ?_ ?_
  · rintro c M' ⟨h1, rfl⟩
    cases h1
    rw [hdst]
    cases b
    · exact ⟨rfl, kf rfl⟩
    · exact ⟨rfl, kt rfl⟩
  · rintro c M' ⟨h1, _⟩
    cases h1

/-- A call that answers v and leaves all as it was. -/
theorem W.callV {c : Call} {x : Operand} {f : FuncId} {cap args : List CV} {v : CV} (ho : o.op = .call c) (hc : c.callee = .value x) (hx : AS.ev { fr := fr, loc := loc, M := M, ds := ds } x = .func f cap)
    (hargs : c.args.toList.map (AS.ev { fr := fr, loc := loc, M := M, ds := ds }) ++ cap = args) (hdst : o.dst = some d) (hcall : ACalls f args M (fun r M' => r = .ret v ∧ M' = M))
    (hn : noLs args = true) (hv : noL v = true) (hd : Nat.blt d n = true) (k : K { fr := (d, v) :: fr, loc := loc, M := M, ds := ds }) :
    AOp Try.prog n o K Q { fr := fr, loc := loc, M := M, ds := ds } := by
  refine AOp.call ho hc hx hargs hn hcall (by rw [hdst]; exact hd) ?_ ?_
  · rintro c M' ⟨h1, rfl⟩
    cases h1
    rw [hdst]
    exact ⟨hv, k⟩
  · rintro c M' ⟨h1, _⟩
    cases h1

end

/-- What most functions do: they answer, and leave all as it was. -/
abbrev Ans (f : FuncId) (args : List CV) (c : CV) : Prop := ∀ M, ACalls f args M (fun r M' => r = .ret c ∧ M' = M)

theorem bodyQ.one {fn : Func} {fr : List (Nat × CV)} {loc : List (Nat × AObj)} {M : List AObj} {t : Nat} {c : CV} {QQ : ARes → List AObj → Prop} (hr : fn.results = #[.tmp t])
    (hc : headO (some ((look fr t).getD .undef)) = some c) (hn : noL c = true) (hq : QQ (.ret c) M) :
    bodyQ fn QQ .ret { fr := fr, loc := loc, M := M, ds := [] } := by
  rw [headO_eq] at hc
  cases hc
  exact ⟨rfl, _, _, ARet.one hr, Freeze.same hn, hq⟩

theorem bodyQ.two {fn : Func} {fr : List (Nat × CV)} {loc : List (Nat × AObj)} {M : List AObj} {t u : Nat} {c c' : CV} {QQ : ARes → List AObj → Prop} (hr : fn.results = #[.tmp t, .tmp u])
    (hc : headO (some ((look fr t).getD .undef)) = some c) (hc' : headO (some ((look fr u).getD .undef)) = some c') (hn : noL c = true) (hn' : noL c' = true) (hq : QQ (.ret (.tuple [c, c'])) M) :
    bodyQ fn QQ .ret { fr := fr, loc := loc, M := M, ds := [] } := by
  rw [headO_eq] at hc hc'
  cases hc; cases hc'
  refine ⟨rfl, _, _, ARet.two hr, Freeze.same ?_, hq⟩
  simp only [noL, noLs, AS.tmp, Bool.and_eq_true, and_true]
  exact ⟨hn, hn'⟩

def letterB (c : Int) : Bool := (decide (c ≥ 97) && decide (c ≤ 122)) || (decide (c ≥ 65) && decide (c ≤ 90)) || (c == 95)

set_option maxHeartbeats 400000 in
theorem letter_ok (c : Int) : Ans 51 [.int .u8 c] (.bool (letterB c)) := by
  intro M
  refine ACalls.of_body Try.func51 rfl rfl rfl ?_
  simp only [Try.ntmps51, frOf]
  repeat' (first
    | refine AOps.plain rfl (W.cmp rfl rfl rfl rfl (fun _ => ?_) (fun _ => ?_))
    | refine AOps.plain rfl (W.pure rfl rfl rfl ?_)
    | refine AOps.take rfl rfl (W.cmp rfl rfl rfl rfl (fun _ => ?_) (fun _ => ?_))
    | refine AOps.take rfl rfl (W.pure rfl rfl rfl ?_)
    | refine W.leave rfl rfl rfl rfl ?_
    | refine AOps.nil ?_
    | refine AThen.normal ?_
    | refine AWp.seq ?_
    | refine AWp.region ?_
    | refine AWp.ret ?_)

  all_goals refine bodyQ.one rfl rfl rfl ⟨?_, rfl⟩
  all_goals simp [letterB, *]

end Go.Proofs.Ytceocfancfjdjaa
