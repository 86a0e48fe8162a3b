/- Statements whose order Go leaves open: where all but a chain of operations only read, one order tells of all. No condition. -/
import Derived.Test.YtceocfancfjdjaaTree
namespace Go.Proofs.Ytceocfancfjdjaa
open Go Go.RowKit

/-! ### what an operation looks at -/

def tmpsOf : List Operand → List Nat
  | [] => []
  | .tmp t :: r => t :: tmpsOf r
  | _ :: r => tmpsOf r

def usesOf (ops : List Oper) (o : Oper) : List Nat :=
  tmpsOf o.op.operands.toList ++ (match o.guard with
    | some (j, _) => ((ops[j]?).bind (·.dst)).toList
    | none => [])

theorem tmpsOf_mem {l : List Operand} {t : Nat} (h : Operand.tmp t ∈ l) : t ∈ tmpsOf l := by
  induction l with
  | nil => cases h
  | cons x r ih =>
    rcases List.mem_cons.1 h with e | h'
    · rw [← e]; simp [tmpsOf]
    · cases x <;> simp [tmpsOf, ih h']

section
variable {fr fr' : List (Nat × CV)} {loc loc' : List (Nat × AObj)} {M M' : List AObj} {ds ds' : List CV}

theorem ev_congr {x : Operand} (h : ∀ t, x = .tmp t → look fr t = look fr' t) : AS.ev { fr := fr, loc := loc, M := M, ds := ds } x = AS.ev { fr := fr', loc := loc', M := M', ds := ds' } x := by
  cases x with
  | tmp t => simp only [AS.ev, AS.tmp]; rw [h t rfl]
  | _ => rfl

theorem lenOf_congr {t : TypeId} {c : CV} : lenOf { fr := fr, loc := loc, M := M, ds := ds } t c = lenOf { fr := fr', loc := loc, M := M, ds := ds' } t c := by
  unfold lenOf
  cases tlen t <;> rfl

theorem get_congr (o : Nm) : AS.get { fr := fr, loc := loc, M := M, ds := ds } o = AS.get { fr := fr', loc := loc, M := M, ds := ds' } o := by cases o <;> rfl

theorem pstep_congr {op : Op} (h : ∀ t, t ∈ tmpsOf op.operands.toList → look fr t = look fr' t) :
    pstep { fr := fr, loc := loc, M := M, ds := ds } op = pstep { fr := fr', loc := loc, M := M, ds := ds' } op := by
  have hx : ∀ x, x ∈ op.operands.toList → AS.ev { fr := fr, loc := loc, M := M, ds := ds } x = AS.ev { fr := fr', loc := loc, M := M, ds := ds' } x :=
    fun x hx => ev_congr (fun t e => h t (tmpsOf_mem (e ▸ hx)))
  cases op with
  | move x => simp only [pstep]; rw [hx x (by simp [Op.operands])]
  | assign x => simp only [pstep]; rw [hx x (by simp [Op.operands])]
  | pick c a b => simp only [pstep]; rw [hx c (by simp [Op.operands]), hx a (by simp [Op.operands]), hx b (by simp [Op.operands])]
  | load t x =>
    simp only [pstep]; rw [hx x (by simp [Op.operands])]
    split <;> rfl
  | binOp op t x y yt => simp only [pstep]; rw [hx x (by simp [Op.operands]), hx y (by simp [Op.operands])]
  | unOp op t x => cases op <;> simp only [pstep]; rw [hx x (by simp [Op.operands])]
  | fieldAddr t x k => simp only [pstep]; rw [hx x (by simp [Op.operands])]
  | indexAddr t x i => simp only [pstep]; rw [hx x (by simp [Op.operands]), hx i (by simp [Op.operands])]
  | index t x i =>
    unfold pstep
    split <;> rename_i heq <;> (try (cases heq; done)) <;> try rfl
    injection heq with e1 e2 e3
    subst e1; subst e2; subst e3
    rw [hx x (by simp [Op.operands]), hx i (by simp [Op.operands])]
  | extract x i => simp only [pstep]; rw [hx x (by simp [Op.operands])]
  | nilCheck x => simp only [pstep]; rw [hx x (by simp [Op.operands])]
  | call c =>
    obtain ⟨callee, args, argTypes⟩ := c
    simp only [pstep, callStep]
    split <;> try rfl
    rename_i y t hargs _
    have hmem : y ∈ args.toList := by rw [hargs]; simp
    rw [hx y (by simp [Op.operands, Call.operands]; exact Array.mem_toList_iff.1 hmem), lenOf_congr]
  | makeFunc fn first captured =>
    cases fn <;> simp only [pstep, capStep] <;> try rfl
    split <;> try rfl
    congr 2
    exact List.map_congr_left fun x hm => hx x (by simp [Op.operands]; exact .inr (Array.mem_toList_iff.1 hm))
  | makeInterface t x =>
    unfold pstep
    split <;> rename_i heq <;> (try (cases heq; done)) <;> try rfl
    injection heq with e1 e2
    subst e1; subst e2
    rw [hx x (by simp [Op.operands])]
  | _ => rfl

/-- What is reckoned without a look at any block. -/
theorem pstep_free {op : Op} {v : CV} (h : pstep { fr := fr, loc := [], M := [], ds := [] } op = some v) : pstep { fr := fr, loc := loc, M := M, ds := ds } op = some v := by
  have hx : ∀ x, AS.ev { fr := fr, loc := [], M := [], ds := [] } x = AS.ev { fr := fr, loc := loc, M := M, ds := ds } x := fun x => ev_congr (fun _ _ => rfl)
  cases op with
  | move x => simp only [pstep, ← hx]; exact h
  | assign x => simp only [pstep, ← hx]; exact h
  | pick c a b => simp only [pstep, ← hx]; exact h
  | load t x =>
    simp only [pstep, ← hx] at h ⊢
    split at h
    · exact h
    · rename_i o off hc
      cases o <;> simp [AS.get, look] at h
    · cases h
  | binOp op t x y yt => simp only [pstep, ← hx]; exact h
  | unOp op t x => cases op <;> simp only [pstep, ← hx] at h ⊢ <;> exact h
  | fieldAddr t x k => simp only [pstep, ← hx]; exact h
  | indexAddr t x i => simp only [pstep, ← hx]; exact h
  | index t x i =>
    by_cases ht : t = 9
    · subst ht
      simp only [pstep, ← hx] at h ⊢
      exact h
    · unfold pstep at h
      split at h <;> simp_all
  | extract x i => simp only [pstep, ← hx]; exact h
  | nilCheck x => simp only [pstep, ← hx]; exact h
  | call c =>
    obtain ⟨callee, args, argTypes⟩ := c
    simp only [pstep, callStep] at h ⊢
    split at h <;> try (cases h; done)
    rename_i y t _ _
    simp only [← hx]
    unfold lenOf at h ⊢
    cases ht : tlen t <;> simp only [ht] at h ⊢ <;> (try exact h)
    cases hc : AS.ev { fr := fr, loc := [], M := [], ds := [] } y <;> simp only [hc] at h ⊢ <;> (try exact h)
    rename_i o
    cases o <;> simp [AS.get, look] at h
  | makeFunc fn first captured =>
    cases fn <;> simp only [pstep, capStep] at h ⊢ <;> exact h
  | makeInterface t x =>
    by_cases ht : t = 44
    · subst ht
      simp only [pstep, ← hx] at h ⊢
      exact h
    · unfold pstep at h
      split at h <;> simp_all
  | _ => simp [pstep] at h

end

/-! ### which operation waits for which -/

def edgesOf (o : Oper) : List Nat := (o.after.toList.filter (Region.binds .any)).map (·.on)

inductive Reach (ops : List Oper) : Nat → Nat → Prop
  | one {i e : Nat} {o : Oper} : ops[i]? = some o → e ∈ edgesOf o → Reach ops i e
  | more {i j e : Nat} {o : Oper} : ops[i]? = some o → j ∈ edgesOf o → Reach ops j e → Reach ops i e

def closFrom : List Oper → List (List Nat) → List (List Nat)
  | [], acc => acc
  | o :: r, acc => closFrom r (acc ++ [(edgesOf o).flatMap fun e => e :: acc.getD e []])

def clos (ops : List Oper) : List (List Nat) := closFrom ops []

theorem closFrom_spec (ops : List Oper) : ∀ (l pre : List Oper) (acc : List (List Nat)), ops = pre ++ l → acc.length = pre.length → (∀ j e, e ∈ acc.getD j [] → Reach ops j e) →
    ∀ j e, e ∈ (closFrom l acc).getD j [] → Reach ops j e := by
  intro l
  induction l with
  | nil => intro pre acc _ _ h; exact h
  | cons o r ih =>
    intro pre acc hops hlen h
    refine ih (pre ++ [o]) _ (by rw [hops]; simp) (by simp [hlen]) ?_
    intro j e he
    have hi : ops[pre.length]? = some o := by rw [hops]; simp
    by_cases hj : j < acc.length
    · rw [List.getD_eq_getElem?_getD, List.getElem?_append_left hj, ← List.getD_eq_getElem?_getD] at he
      exact h j e he
    · by_cases hj2 : j = acc.length
      · subst hj2
        rw [List.getD_eq_getElem?_getD] at he
        simp at he
        obtain ⟨e', he', h2⟩ := he
        rw [hlen]
        rcases h2 with rfl | h2
        · exact .one hi he'
        · exact .more hi he' (h e' e (by rw [List.getD_eq_getElem?_getD]; exact h2))
      · rw [List.getD_eq_getElem?_getD, List.getElem?_eq_none (by simp; omega)] at he
        simp at he

theorem clos_spec {ops : List Oper} {j e : Nat} (h : ((clos ops).getD j []).contains e = true) : Reach ops j e :=
  by
  unfold clos at h
  exact closFrom_spec ops ops [] [] rfl rfl (by simp) j e (by simpa using h)

def dstN (ops : List Oper) (j : Nat) : Option Nat := (ops[j]?).bind (·.dst)

def ordB (cl : List (List Nat)) (i e : Nat) : Bool := e == i || (cl.getD i []).contains e || (cl.getD e []).contains i

/-- The order that there is is enough. -/
def chkD (ops : List Oper) (effs : List Nat) : Bool :=
  let cl := clos ops
  (List.range ops.length).all fun i => match ops[i]? with
    | none => true
    | some o =>
      (edgesOf o).all (fun e => decide (e < i)) &&
      (usesOf ops o).all (fun t => (List.range ops.length).all fun j => !(dstN ops j == some t) || (cl.getD i []).contains j || (cl.getD j []).contains i) &&
      (List.range ops.length).all (fun j => j == i || dstN ops i == none || !(dstN ops i == dstN ops j)) &&
      (!(effs.contains i) || effs.all (fun e => ordB cl i e))

def ordAll (ops : List Oper) (effs : List Nat) (i : Nat) : Bool := effs.all (fun e => ordB (clos ops) i e)

structure Chk (ops : List Oper) (effs : List Nat) : Prop where
  lt : ∀ i o e, ops[i]? = some o → e ∈ edgesOf o → e < i
  uses : ∀ i o t j, ops[i]? = some o → t ∈ usesOf ops o → dstN ops j = some t → Reach ops i j ∨ Reach ops j i
  dst : ∀ i j t, dstN ops i = some t → dstN ops j = some t → j = i
  eff : ∀ i e, i ∈ effs → i < ops.length → e ∈ effs → e = i ∨ Reach ops i e ∨ Reach ops e i

theorem ordB_spec {ops : List Oper} {i e : Nat} (h : ordB (clos ops) i e = true) : e = i ∨ Reach ops i e ∨ Reach ops e i := by
  simp only [ordB, Bool.or_eq_true] at h
  rcases h with (h | h) | h
  · exact .inl (by simpa using h)
  · exact .inr (.inl (clos_spec h))
  · exact .inr (.inr (clos_spec h))

theorem chk_spec {ops : List Oper} {effs : List Nat} (h : chkD ops effs = true) : Chk ops effs := by
  have hh : ∀ i o, ops[i]? = some o → _ := fun i o ho => by
    have hi : i < ops.length := (List.getElem?_eq_some_iff.1 ho).1
    have := List.all_eq_true.1 h i (List.mem_range.2 hi)
    rw [ho] at this
    simp only [Bool.and_eq_true] at this
    exact this
  refine ⟨fun i o e ho he => ?_, fun i o t j ho ht hd => ?_, fun i j t hi hj => ?_, fun i e hi hlt he => ?_⟩
  · have := List.all_eq_true.1 (hh i o ho).1.1.1 e he
    simpa using this
  · have hj : j < ops.length := by
      unfold dstN at hd
      cases hq : ops[j]? with
      | none => simp [hq] at hd
      | some q => exact (List.getElem?_eq_some_iff.1 hq).1
    have := List.all_eq_true.1 (List.all_eq_true.1 (hh i o ho).1.1.2 t ht) j (List.mem_range.2 hj)
    simp only [hd, beq_self_eq_true, Bool.not_true, Bool.false_or, Bool.or_eq_true] at this
    exact this.imp clos_spec clos_spec
  · have ho : ∃ o, ops[i]? = some o := by
      unfold dstN at hi
      cases hq : ops[i]? with
      | none => simp [hq] at hi
      | some q => exact ⟨q, rfl⟩
    obtain ⟨o, ho⟩ := ho
    have hjl : j < ops.length := by
      unfold dstN at hj
      cases hq : ops[j]? with
      | none => simp [hq] at hj
      | some q => exact (List.getElem?_eq_some_iff.1 hq).1
    have := List.all_eq_true.1 (hh i o ho).1.2 j (List.mem_range.2 hjl)
    simp only [hi, hj, beq_self_eq_true, Bool.not_true, Bool.or_false, Bool.or_eq_true] at this
    rcases this with h1 | h1
    · simpa using h1
    · simp at h1
  · have ho : ops[i]? = some ops[i] := List.getElem?_eq_getElem hlt
    have := (hh i _ ho).2
    simp only [Bool.or_eq_true, Bool.not_eq_true'] at this
    rcases this with h1 | h1
    · have : effs.contains i = true := by simpa using hi
      rw [this] at h1
      cases h1
    · exact ordB_spec (List.all_eq_true.1 h1 e he)

theorem Reach.lt {ops : List Oper} {effs : List Nat} (hc : Chk ops effs) {i e : Nat} (h : Reach ops i e) : e < i := by
  induction h with
  | one ho he => exact hc.lt _ _ _ ho he
  | more ho hj _ ih => have := hc.lt _ _ _ ho hj; omega

/-- Whoever is through, so are those that he waits for. -/
def Down (ops : List Oper) (L : Nat → Prop) : Prop := ∀ i o e, L i → ops[i]? = some o → e ∈ edgesOf o → L e

theorem Reach.down {ops : List Oper} {L : Nat → Prop} (hd : Down ops L) {i e : Nat} (h : Reach ops i e) (hi : L i) : L e := by
  induction h with
  | one ho he => exact hd _ _ _ hi ho he
  | more ho hj _ ih => exact ih (hd _ _ _ hi ho hj)

theorem Reach.ready {ops : List Oper} {L : Nat → Prop} (hd : Down ops L) {i e : Nat} {o : Oper} (hi : ops[i]? = some o) (hr : ∀ e, e ∈ edgesOf o → L e) (h : Reach ops i e) : L e := by
  cases h with
  | one ho he => rw [hi] at ho; cases ho; exact hr _ he
  | more ho hj hre => rw [hi] at ho; cases ho; exact hre.down hd (hr _ hj)

end Go.Proofs.Ytceocfancfjdjaa
