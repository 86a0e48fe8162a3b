/- The rules by which a function's text is gone through: operations one by one, blocks made and written, calls. No condition. -/
import Derived.Test.YtceocfancfjdjaaPure
namespace Go.Proofs.Ytceocfancfjdjaa
open Go Go.RowKit

/-! ### worlds that grow, blocks that turn -/
section
variable {n : Nat} {ρ ρ' : Rho} {s s' : AS} {w w' : World} {a : Act}

theorem Rel.blk (h : Rel ρ s w) {o : Nm} {x : AObj} (hx : s.get o = some x) : ∃ ob, w.heap[(ρ o x.ver).1]? = some ob := by
  have := h.obj o x hx
  cases x with
  | box cs => obtain ⟨cur, e, hb, _⟩ := this; exact ⟨_, hb⟩
  | arr v e sz cs => obtain ⟨cur, hb, _⟩ := this; exact ⟨_, hb⟩
  | map es => obtain ⟨mes, cl, hb, _⟩ := this; exact ⟨_, hb⟩

theorem Rel.own_ltO (h : Rel ρ s w) {b : Nat} (hb : Own ρ s b) : b < w.heap.size := by
  obtain ⟨o, x, hx, rfl⟩ := hb
  obtain ⟨ob, hob⟩ := h.blk hx
  exact (Array.getElem?_eq_some_iff.1 hob).1

theorem Rel.own_lt (h : Rel ρ s w) {b : Nat} (hb : OwnF ρ s b) : b < w.heap.size := hb.elim h.own_ltO (h.fb b)

/-- All that is known of one block that turns, or that is new, beside all others that stay. -/
structure Turn (ρ : Rho) (s : AS) (w : World) (ρ' : Rho) (s' : AS) (w' : World) (o : Nm) (x' : AObj) : Prop where
  F : ρ'.F = ρ.F
  os : w'.os = w.os
  tape : w'.tape = w.tape
  output : w'.output = w.output
  size : w.heap.size ≤ w'.heap.size
  get : ∀ o', o' ≠ o → s'.get o' = s.get o'
  new : s'.get o = some x'
  ver : ∀ x, s.get o = some x → x.ver ≤ x'.ver
  rho : ∀ o' k, Ok s o' k → ρ' o' k = ρ o' k
  blk : (∃ x, s.get o = some x ∧ (ρ' o x'.ver).1 = (ρ o x.ver).1) ∨ w.heap.size ≤ (ρ' o x'.ver).1
  world : ∀ b, b < w.heap.size → (∀ x, s.get o = some x → b ≠ (ρ o x.ver).1) → w'.heap[b]? = w.heap[b]?

theorem Turn.okT {o : Nm} {x' : AObj} (h : Turn ρ s w ρ' s' w' o x') {o' : Nm} {k : Nat} (hk : Ok s o' k) : Ok s' o' k := by
  obtain ⟨x, hx, hle⟩ := hk
  by_cases ho : o' = o
  · subst ho
    exact ⟨x', h.new, Nat.le_trans hle (h.ver x hx)⟩
  · exact ⟨x, (h.get o' ho).trans hx, hle⟩

theorem Turn.ownT {o : Nm} {x' : AObj} (h : Turn ρ s w ρ' s' w' o x') {b : Nat} (hb : Own ρ' s' b) : Own ρ s b ∨ w.heap.size ≤ b := by
  obtain ⟨o', x, hx, rfl⟩ := hb
  by_cases ho : o' = o
  · subst ho
    rw [h.new] at hx
    cases hx
    rcases h.blk with ⟨x0, hx0, e⟩ | hge
    · exact .inl ⟨o', x0, hx0, e.symm⟩
    · exact .inr hge
  · have hx' := (h.get o' ho).symm.trans hx
    exact .inl ⟨o', x, hx', (congrArg (·.1) (h.rho o' x.ver ⟨x, hx', Nat.le_refl _⟩)).symm⟩

theorem Turn.val {o : Nm} {x' : AObj} (h : Turn ρ s w ρ' s' w' o x') {c : CV} {v : Value} (hv : VS ρ s w c v) : VS ρ' s' w' c v := by
  refine V.mono hv (fun o' k hk => ⟨h.okT hk, h.rho o' k hk⟩) (fun b hb hO => ?_)
  refine ⟨h.world b hb (fun x hx e => hO (.inl ⟨o, x, hx, e.symm⟩)), fun hO' => ?_⟩
  rcases hO' with hO' | hF
  · rcases h.ownT hO' with h1 | h1
    · exact hO (.inl h1)
    · omega
  · rw [h.F] at hF
    exact hO (.inr hF)

theorem Turn.rel {o : Nm} {x' : AObj} (h : Turn ρ s w ρ' s' w' o x') (hr : Rel ρ s w) (hobj : RObj ρ' s' w' o x') (hgl : ∀ i, o = .g i → x'.noL = true) : Rel ρ' s' w' := by
  have hfar : ∀ o' x, o' ≠ o → s.get o' = some x → w'.heap[(ρ o' x.ver).1]? = w.heap[(ρ o' x.ver).1]? := by
    intro o' x ho hx
    refine h.world _ (hr.own_ltO ⟨o', x, hx, rfl⟩) (fun y hy e => ho (hr.inj o' o x y hx hy e))
  refine ⟨fun o' x hx => ?_, fun o1 o2 x1 x2 h1 h2 e => ?_, fun b hb => ?_, fun b hb hO => ?_, fun i x hx => ?_⟩
  · by_cases ho : o' = o
    · subst ho
      rw [h.new] at hx
      cases hx
      exact hobj
    · have hx' := (h.get o' ho).symm.trans hx
      have hρ := h.rho o' x.ver ⟨x, hx', Nat.le_refl _⟩
      have hw := hfar o' x ho hx'
      have hold := hr.obj o' x hx'
      cases x with
      | box cs =>
        obtain ⟨cur, e, hb, hV⟩ := hold
        exact ⟨cur, e, by simp only [AObj.ver] at hρ hw; rw [hρ]; exact hw.trans hb, hV.1, fun j c v hc hv => h.val (hV.2 j c v hc hv)⟩
      | arr ver e sz cs =>
        obtain ⟨cur, hb, hl, hV, hcap⟩ := hold
        refine ⟨cur, by simp only [AObj.ver] at hρ hw; rw [hρ]; exact hw.trans hb, hl, ⟨hV.1, fun j c v hc hv => h.val (hV.2 j c v hc hv)⟩, ?_⟩
        simp only [AObj.ver] at hρ
        rw [hρ]
        exact hcap
      | map es =>
        obtain ⟨mes, cl, hb, hl, hV⟩ := hold
        exact ⟨mes, cl, by simp only [AObj.ver] at hρ hw; rw [hρ]; exact hw.trans hb, hl, hV⟩
  · by_cases ho1 : o1 = o
    · by_cases ho2 : o2 = o
      · exact ho1.trans ho2.symm
      · subst ho1
        rw [h.new] at h1
        cases h1
        have h2' := (h.get o2 ho2).symm.trans h2
        rw [h.rho o2 x2.ver ⟨x2, h2', Nat.le_refl _⟩] at e
        rcases h.blk with ⟨x0, hx0, e0⟩ | hge
        · exact hr.inj _ _ _ _ hx0 h2' (e0.symm.trans e)
        · have := hr.own_ltO ⟨o2, x2, h2', rfl⟩
          omega
    · have h1' := (h.get o1 ho1).symm.trans h1
      rw [h.rho o1 x1.ver ⟨x1, h1', Nat.le_refl _⟩] at e
      by_cases ho2 : o2 = o
      · subst ho2
        rw [h.new] at h2
        cases h2
        rcases h.blk with ⟨x0, hx0, e0⟩ | hge
        · exact hr.inj _ _ _ _ h1' hx0 (e.trans e0)
        · have := hr.own_ltO ⟨o1, x1, h1', rfl⟩
          omega
      · have h2' := (h.get o2 ho2).symm.trans h2
        rw [h.rho o2 x2.ver ⟨x2, h2', Nat.le_refl _⟩] at e
        exact hr.inj _ _ _ _ h1' h2' e
  · rw [h.F] at hb
    exact Nat.lt_of_lt_of_le (hr.fb b hb) h.size
  · rw [h.F] at hb
    rcases h.ownT hO with h1 | h1
    · exact hr.fo b hb h1
    · have := hr.fb b hb
      omega
  · by_cases ho : (.g i : Nm) = o
    · subst ho
      rw [h.new] at hx
      cases hx
      exact hgl i rfl
    · exact hr.gl i x ((h.get _ ho).symm.trans hx)

theorem Turn.evol {o : Nm} {x' : AObj} (h : Turn ρ s w ρ' s' w' o x') : Evol ρ s w ρ' s' w' :=
  ⟨h.F, h.os, h.tape, h.output, h.size, fun b hb hO => h.world b hb (fun x hx e => hO ⟨o, x, hx, e.symm⟩), fun _ hb => h.ownT hb, fun _ _ hk => ⟨h.okT hk, h.rho _ _ hk⟩⟩

theorem Turn.sim {o : Nm} {x' : AObj} (h : Turn ρ s w ρ' s' w' o x') (hs : Sim n ρ s w a) (hfr : s'.fr = s.fr) (hds : s'.ds = s.ds)
    (hobj : RObj ρ' s' w' o x') (hgl : ∀ i, o = .g i → x'.noL = true) : Sim n ρ' s' w' a := by
  refine ⟨h.rel hs.rel hobj hgl, hs.size, fun t => ?_, ?_⟩
  · have : s'.tmp t = s.tmp t := by unfold AS.tmp; rw [hfr]
    rw [this]
    exact h.val (hs.tmp t)
  · rw [hds]
    refine ⟨hs.defs.1, fun j c d hc hd => ?_⟩
    obtain ⟨f, cap, vs, h1, h2, h3⟩ := hs.defs.2 j c d hc hd
    exact ⟨f, cap, vs, h1, h2, h3.1, fun j c v hc hv => h.val (h3.2 j c v hc hv)⟩

/-- A world in which nothing that was has turned. -/
structure Grew (w w' : World) : Prop where
  os : w'.os = w.os
  tape : w'.tape = w.tape
  output : w'.output = w.output
  size : w.heap.size ≤ w'.heap.size
  world : ∀ b, b < w.heap.size → w'.heap[b]? = w.heap[b]?

theorem Grew.val (h : Grew w w') {c : CV} {v : Value} (hv : VS ρ s w c v) : VS ρ s w' c v :=
  V.mono hv (fun _ _ hk => ⟨hk, rfl⟩) (fun b hb hO => ⟨h.world b hb, hO⟩)

theorem Grew.rel (h : Grew w w') (hr : Rel ρ s w) : Rel ρ s w' := by
  refine ⟨fun o x hx => ?_, hr.inj, fun b hb => Nat.lt_of_lt_of_le (hr.fb b hb) h.size, hr.fo, hr.gl⟩
  have hw := h.world _ (hr.own_ltO ⟨o, x, hx, rfl⟩)
  have hold := hr.obj o x hx
  cases x with
  | box cs =>
    obtain ⟨cur, e, hb, hV⟩ := hold
    exact ⟨cur, e, hw.trans hb, hV.1, fun j c v hc hv => h.val (hV.2 j c v hc hv)⟩
  | arr ver e sz cs =>
    obtain ⟨cur, hb, hl, hV, hcap⟩ := hold
    exact ⟨cur, hw.trans hb, hl, ⟨hV.1, fun j c v hc hv => h.val (hV.2 j c v hc hv)⟩, hcap⟩
  | map es =>
    obtain ⟨mes, cl, hb, hl, hV⟩ := hold
    exact ⟨mes, cl, hw.trans hb, hl, hV⟩

theorem Grew.sim (h : Grew w w') (hs : Sim n ρ s w a) : Sim n ρ s w' a :=
  ⟨h.rel hs.rel, hs.size, fun t => h.val (hs.tmp t), hs.defs.1, fun j c d hc hd =>
    let ⟨f, cap, vs, h1, h2, h3⟩ := hs.defs.2 j c d hc hd
    ⟨f, cap, vs, h1, h2, h3.1, fun j c v hc hv => h.val (h3.2 j c v hc hv)⟩⟩

theorem Grew.evol (h : Grew w w') : Evol ρ s w ρ s w' :=
  ⟨rfl, h.os, h.tape, h.output, h.size, fun b hb _ => h.world b hb, fun _ hb => .inl hb, fun _ _ hk => ⟨hk, rfl⟩⟩

theorem Grew.alloc (w : World) (o : Obj) : Grew w { w with heap := w.heap.push o } :=
  ⟨rfl, rfl, rfl, by simp, fun b hb => by simp [Array.getElem?_push]; omega⟩

/-! ### frames -/

def dstOk (n : Nat) : Option Tmp → Bool
  | none => true
  | some d => Nat.blt d n

theorem Sim.put (hs : Sim n ρ s w a) {d : Option Tmp} (hd : dstOk n d = true) {c : CV} {v : Value} (hv : VS ρ s w c v) : Sim n ρ (s.put d c) w (a.put d v) := by
  cases d with
  | none => exact hs
  | some d =>
    have hlt : d < n := by simpa [dstOk] using hd
    refine ⟨⟨hs.rel.obj, hs.rel.inj, hs.rel.fb, hs.rel.fo, hs.rel.gl⟩, by simp [Act.put, hs.size], fun t => ?_, hs.defs⟩
    show VS ρ s w ((look ((d, c) :: s.fr) t).getD .undef) ((a.tmps.setIfInBounds d v).getD t undef)
    rw [look_cons]
    have hsz := hs.size
    by_cases h : d = t
    · subst h
      simp [hlt, hsz, hv]
    · have := hs.tmp t
      simp only [AS.tmp] at this
      simp only [h, if_false]
      have e : (a.tmps.setIfInBounds d v).getD t undef = a.tmps.getD t undef := by
        simp [Array.getD_eq_getD_getElem?, Array.getElem?_setIfInBounds_ne h]
      rw [e]
      exact this

end

/-! ### operations -/

theorem Oper.wp_mono2 {P : Program} {o : Oper} {a : Act} {w : World} {K K' : Act → World → Prop} {Q Q' : Exit → Act → World → Prop} (h : ∀ a w, K a w → K' a w)
    (hq : ∀ e a w, Q e a w → Q' e a w) (hh : o.wp P a w K Q) : o.wp P a w K' Q' := by
  unfold Oper.wp at *
  generalize (execOp a.eval o).run P w = r at *
  cases r with
  | ok n w' =>
    cases n <;> simp only [Oper.upon] at hh ⊢ <;>
      first
        | exact h _ _ hh
        | exact Calls.mono hh (fun e w'' he => by
            cases e <;> first | exact h _ _ he | exact hq _ _ _ he | (obtain ⟨a, w, hl⟩ := he; exact ⟨a, w, hq _ _ _ hl⟩))
        | exact Rows.mono hh (fun _ _ he => h _ _ he)
  | halt x w' => cases x <;> simp only [Oper.upon] at hh ⊢ <;> first | exact hq _ _ _ hh | exact hh

theorem wpList_mono2 {P : Program} {ops : Array Oper} {Q Q' : Exit → Act → World → Prop} (hq : ∀ e a w, Q e a w → Q' e a w) :
    ∀ (l : List Oper) (a : Act) (w : World), wpList P ops Q l a w → wpList P ops Q' l a w
  | [], _, _, h => hq _ _ _ h
  | o :: rest, a, w, h => by
    unfold wpList at h ⊢
    split at h
    · rename_i hw
      rw [if_pos hw]
      rcases h with h | ⟨h1, a0, w0, h2⟩
      · exact .inl (Oper.wp_mono2 (wpList_mono2 hq rest) hq h)
      · exact .inr ⟨h1, a0, w0, hq _ _ _ h2⟩
    · rename_i hw
      rw [if_neg hw]
      exact wpList_mono2 hq rest _ _ h

section
variable {P : Program} {n : Nat} {ops : Array Oper} {Q : APost} {s : AS} {o : Oper} {rest : List Oper}

/-- What one operation does, K behind it. -/
def AOp (P : Program) (n : Nat) (o : Oper) (K : AS → Prop) (Q : APost) (s : AS) : Prop :=
  ∀ ρ w a, Sim n ρ s w a → o.wp P a w (fun a' w' => ∃ s' ρ', K s' ∧ Sim n ρ' s' w' a' ∧ Evol ρ s w ρ' s' w') (AQ n Q ρ s w)

def AOps (P : Program) (n : Nat) (ops : Array Oper) (Q : APost) (l : List Oper) (s : AS) : Prop :=
  ∀ ρ w a, Sim n ρ s w a → wpList P ops (AQ n Q ρ s w) l a w

theorem AOps.nil (h : Q .normal s) : AOps P n ops Q [] s :=
  fun ρ w _ hs => ⟨.normal, s, ρ, trivial, h, hs, Evol.refl ρ s w⟩

theorem AWp.region {id : Nat} {l : List Oper} (h : AOps P n l.toArray Q l s) : AWp P n (.region id l.toArray false) Q s :=
  fun ρ w a hs => wp_region_lit (h ρ w a hs)

theorem AOps.run {ρ : Rho} {w : World} {a : Act} (hs : Sim n ρ s w a) (h : AOp P n o (AOps P n ops Q rest) Q s) :
    o.wp P a w (wpList P ops (AQ n Q ρ s w) rest) (AQ n Q ρ s w) := by
  refine Oper.wp_mono2 ?_ (fun _ _ _ h => h) (h ρ w a hs)
  rintro a' w' ⟨s', ρ', hk, hsim, hev⟩
  exact wpList_mono2 (fun e a w h => AQ.trans hev h) rest a' w' (hk ρ' w' a' hsim)

theorem AOps.plain (hg : o.guard = none) (h : AOp P n o (AOps P n ops Q rest) Q s) : AOps P n ops Q (o :: rest) s := by
  intro ρ w a hs
  unfold wpList
  rw [if_pos (by simp [Region.wanted, hg])]
  exact .inl (AOps.run hs h)

/-- What an operation's test has yielded. -/
def gval (ops : Array Oper) (s : AS) (j : Nat) : CV :=
  match (ops[j]?).bind (·.dst) with
  | some t => s.tmp t
  | none => .undef

theorem yielded_of {ρ : Rho} {w : World} {a : Act} (hs : Sim n ρ s w a) {j : Nat} {b : Bool} (h : gval ops s j = .bool b) : yielded ops a.tmps j = some b := by
  unfold gval at h
  split at h
  · rename_i t ht
    have hv := hs.tmp t
    rw [h] at hv
    have he := hv.bool_inv
    have hlt : t < a.tmps.size := by
      rcases Nat.lt_or_ge t a.tmps.size with h | h
      · exact h
      · simp [Array.getD_eq_getD_getElem?, Array.getElem?_eq_none h, undef] at he
    have he2 : a.tmps[t]? = some (.bool b) := by
      rw [Array.getD_eq_getD_getElem?, Array.getElem?_eq_getElem hlt] at he
      rw [Array.getElem?_eq_getElem hlt]
      simpa using he
    simp [yielded, ht, he2]
  · cases h

theorem AOps.take {j : Nat} {b : Bool} (hg : o.guard = some (j, b)) (hb : gval ops s j = .bool b) (h : AOp P n o (AOps P n ops Q rest) Q s) :
    AOps P n ops Q (o :: rest) s := by
  intro ρ w a hs
  unfold wpList
  rw [if_pos (by simp [Region.wanted, hg, yielded_of hs hb])]
  exact .inl (AOps.run hs h)

theorem Evol.put {ρ ρ' : Rho} {s s' : AS} {w w' : World} (h : Evol ρ s w ρ' s' w') (d : Option Tmp) (c : CV) : Evol ρ s w ρ' (s'.put d c) w' := by
  cases d <;> exact ⟨h.F, h.os, h.tape, h.output, h.size, h.frame, h.own, h.names⟩

/-- Its test says no, or has not been made. -/
def gskip : CV → Bool → Bool
  | .bool c, b => bne c b
  | .tuple [], _ => true
  | _, _ => false

theorem unwanted_of {ρ : Rho} {w : World} {a : Act} (hs : Sim n ρ s w a) {j : Nat} {b : Bool} (h : gskip (gval ops s j) b = true) : (yielded ops a.tmps j == some b) = false := by
  cases hg : gval ops s j with
  | bool c =>
    rw [hg] at h
    rw [yielded_of hs hg]
    cases b <;> cases c <;> simp_all [gskip]
  | tuple cs =>
    cases cs with
    | cons _ _ => rw [hg] at h; simp [gskip] at h
    | nil =>
      unfold gval at hg
      split at hg
      · rename_i t ht
        have hv := hs.tmp t
        rw [hg] at hv
        generalize hq : a.tmps.getD t undef = q at hv
        cases hv with
        | tuple _ vs hl _ =>
          have hvs : vs = #[] := by
            have : vs.size = 0 := by simpa using hl.symm
            exact Array.eq_empty_of_size_eq_zero this
          subst hvs
          have : yielded ops a.tmps j = none := by
            simp only [yielded, ht, Option.bind_some]
            rw [Array.getD_eq_getD_getElem?] at hq
            cases hx : a.tmps[t]? with
            | none => rfl
            | some x =>
              rw [hx] at hq
              simp at hq
              subst hq
              rfl
          rw [this]
          rfl
      · cases hg
  | _ => rw [hg] at h; simp [gskip] at h

theorem AOps.leave {j : Nat} {b : Bool} (hg : o.guard = some (j, b)) (hb : gskip (gval ops s j) b = true) (hd : dstOk n o.dst = true)
    (h : AOps P n ops Q rest (s.put o.dst (.tuple []))) : AOps P n ops Q (o :: rest) s := by
  intro ρ w a hs
  unfold wpList
  rw [if_neg (by simp [Region.wanted, hg, unwanted_of hs hb])]
  have hsim := hs.put hd (c := .tuple []) (v := undef) (.tuple [] #[] rfl (by simp))
  refine wpList_mono2 (fun e a' w' hq => ?_) rest _ _ (h ρ w _ hsim)
  exact AQ.trans ((Evol.refl ρ s w).put _ _) hq

variable {K : AS → Prop}

/-- An operation that reads. -/
theorem AOp.pure {c : CV} (h : pstep s o.op = some c) (hd : dstOk n o.dst = true) (k : K (s.put o.dst c)) : AOp Try.prog n o K Q s := by
  intro ρ w a hs
  obtain ⟨v, hr, hv⟩ := pstep_sound hs h
  unfold Oper.wp
  rw [hr]
  exact ⟨s.put o.dst c, ρ, k, hs.put hd hv, (Evol.refl ρ s w).put _ _⟩

end
end Go.Proofs.Ytceocfancfjdjaa
