/- The text's own order tells of every order: the theorem, and its rules. No condition. -/
import Derived.Test.YtceocfancfjdjaaDraw
namespace Go.Proofs.Ytceocfancfjdjaa
open Go Go.RowKit

def putF (fr : List (Nat × CV)) (d : Option Tmp) (v : CV) : List (Nat × CV) :=
  match d with
  | some d => (d, v) :: fr
  | none => fr

theorem put_fr {fr : List (Nat × CV)} {loc : List (Nat × AObj)} {M : List AObj} {ds : List CV} {d : Option Tmp} {v : CV} :
    AS.put { fr := fr, loc := loc, M := M, ds := ds } d v = { fr := putF fr d v, loc := loc, M := M, ds := ds } := by cases d <;> rfl

theorem Sim.ext {n : Nat} {ρ : Rho} {fr fr' : List (Nat × CV)} {loc : List (Nat × AObj)} {M : List AObj} {ds : List CV} {w : World} {a : Act}
    (hs : Sim n ρ { fr := fr, loc := loc, M := M, ds := ds } w a) (h : ∀ t, look fr t = look fr' t) : Sim n ρ { fr := fr', loc := loc, M := M, ds := ds } w a := by
  refine ⟨⟨hs.rel.obj, hs.rel.inj, hs.rel.fb, hs.rel.fo, hs.rel.gl⟩, hs.size, fun t => ?_, hs.defs⟩
  have := hs.tmp t
  simp only [AS.tmp, h t] at this
  exact this

theorem Evol.fr {ρ : Rho} {fr fr' : List (Nat × CV)} {loc : List (Nat × AObj)} {M : List AObj} {ds : List CV} {w w' : World} (h : w = w') :
    Evol ρ { fr := fr, loc := loc, M := M, ds := ds } w ρ { fr := fr', loc := loc, M := M, ds := ds } w' := by
  subst h
  have h := Evol.refl ρ { fr := fr, loc := loc, M := M, ds := ds } w
  exact ⟨h.F, h.os, h.tape, h.output, h.size, h.frame, h.own, h.names⟩

def gvalF (ops : List Oper) (fr : List (Nat × CV)) (j : Nat) : CV :=
  match (ops[j]?).bind (·.dst) with
  | some t => (look fr t).getD .undef
  | none => .undef

theorem gvalF_eq {ops : List Oper} {fr : List (Nat × CV)} {loc : List (Nat × AObj)} {M : List AObj} {ds : List CV} {j : Nat} :
    gval ops.toArray { fr := fr, loc := loc, M := M, ds := ds } j = gvalF ops fr j := by
  unfold gval gvalF
  rw [List.getElem?_toArray]
  rfl

def Agree (u : List Nat) (fr fr' : List (Nat × CV)) : Prop := ∀ t, t ∈ u → look fr' t = look fr t

def Wants (ops : List Oper) (fr : List (Nat × CV)) (o : Oper) : Prop := o.guard = none ∨ ∃ j b, o.guard = some (j, b) ∧ gvalF ops fr j = .bool b

theorem Wants.plain {ops : List Oper} {fr : List (Nat × CV)} {o : Oper} (h : o.guard = none) : Wants ops fr o := .inl h
theorem Wants.take {ops : List Oper} {fr : List (Nat × CV)} {o : Oper} {j : Nat} {b : Bool} (h : o.guard = some (j, b)) (h2 : gvalF ops fr j = .bool b) : Wants ops fr o := .inr ⟨j, b, h, h2⟩

/-- What one operation does in the text's order, and why it does that in every order. -/
inductive Acts (n : Nat) (ops : List Oper) (effs : List Nat) (Q : APost) (ds : List CV) (i : Nat) (o : Oper) (fr : List (Nat × CV)) (loc : List (Nat × AObj)) (M : List AObj) : CV → List (Nat × AObj) → List AObj → Prop
  | skip {j : Nat} {b : Bool} (hg : o.guard = some (j, b)) (hb : gskip (gvalF ops fr j) b = true) (hd : dstOk n o.dst = true) : Acts n ops effs Q ds i o fr loc M (.tuple []) loc M
  | free {v : CV} (hw : Wants ops fr o) (h : ∀ fr' lc Mc, Agree (usesOf ops o) fr fr' →
      AOp Try.prog n o (fun s' => s' = { fr := putF fr' o.dst v, loc := lc, M := Mc, ds := ds }) Q { fr := fr', loc := lc, M := Mc, ds := ds }) : Acts n ops effs Q ds i o fr loc M v loc M
  | ord {v : CV} {loc' : List (Nat × AObj)} {M' : List AObj} (hw : Wants ops fr o) (ho : ordAll ops effs i = true) (hm : i ∈ effs ∨ (loc' = loc ∧ M' = M)) (h : ∀ fr', Agree (usesOf ops o) fr fr' →
      AOp Try.prog n o (fun s' => s' = { fr := putF fr' o.dst v, loc := loc', M := M', ds := ds }) Q { fr := fr', loc := loc, M := M, ds := ds }) : Acts n ops effs Q ds i o fr loc M v loc' M'

def DOps (n : Nat) (ops : List Oper) (effs : List Nat) (Q : APost) (ds : List CV) : Nat → Nat → List Oper → List (Nat × CV) → List (Nat × AObj) → List AObj → Prop
  | 0, _, rest, fr, loc, M => AOps Try.prog n ops.toArray Q rest { fr := fr, loc := loc, M := M, ds := ds }
  | _ + 1, _, [], _, _, _ => False
  | cnt + 1, i, o :: rest, fr, loc, M => ∃ v loc' M', Acts n ops effs Q ds i o fr loc M v loc' M' ∧ DOps n ops effs Q ds cnt (i + 1) rest (putF fr o.dst v) loc' M'

/-- The whole of a text's run. -/
structure Trace (n : Nat) (ops : List Oper) (effs : List Nat) (Q : APost) (ds : List CV) (k : Nat) (V : Nat → CV) (F : Nat → List (Nat × CV)) (L : Nat → List (Nat × AObj)) (M : Nat → List AObj) : Prop where
  acts : ∀ i o, i < k → ops[i]? = some o → Acts n ops effs Q ds i o (F i) (L i) (M i) (V i) (L (i + 1)) (M (i + 1))
  fr : ∀ i o, i < k → ops[i]? = some o → F (i + 1) = putF (F i) o.dst (V i)

theorem DOps.trace {n : Nat} {ops : List Oper} {effs : List Nat} {Q : APost} {ds : List CV} : ∀ (cnt i : Nat) (rest : List Oper) (fr : List (Nat × CV)) (loc : List (Nat × AObj)) (M : List AObj),
    ops.drop i = rest → DOps n ops effs Q ds cnt i rest fr loc M →
    ∃ (V : Nat → CV) (F : Nat → List (Nat × CV)) (L : Nat → List (Nat × AObj)) (Ms : Nat → List AObj), F i = fr ∧ L i = loc ∧ Ms i = M ∧ (∀ j o, i ≤ j → j < i + cnt → ops[j]? = some o →
      Acts n ops effs Q ds j o (F j) (L j) (Ms j) (V j) (L (j + 1)) (Ms (j + 1)) ∧ F (j + 1) = putF (F j) o.dst (V j)) ∧
      i + cnt ≤ ops.length + (if cnt = 0 then i else 0) ∧
      AOps Try.prog n ops.toArray Q (ops.drop (i + cnt)) { fr := F (i + cnt), loc := L (i + cnt), M := Ms (i + cnt), ds := ds }
  | 0, i, rest, fr, loc, M, hr, h => by
    refine ⟨fun _ => .undef, fun _ => fr, fun _ => loc, fun _ => M, rfl, rfl, rfl, fun j o h1 h2 => by omega, by simp, ?_⟩
    rw [Nat.add_zero, hr]
    exact h
  | cnt + 1, i, [], _, _, _, _, h => h.elim
  | cnt + 1, i, o :: rest, fr, loc, M, hr, ⟨v, loc', M', ha, hrest⟩ => by
    have hi : ops[i]? = some o := by
      have := congrArg (·[0]?) hr
      simpa using this
    have hlt : i < ops.length := (List.getElem?_eq_some_iff.1 hi).1
    have hr2 : ops.drop (i + 1) = rest := by
      have := congrArg List.tail hr
      simpa using this
    obtain ⟨V, F, L, Ms, hF, hL, hM, hacts, hlen, htail⟩ := DOps.trace cnt (i + 1) rest _ loc' M' hr2 hrest
    refine ⟨fun j => if j = i then v else V j, fun j => if j = i then fr else F j, fun j => if j = i then loc else L j, fun j => if j = i then M else Ms j, by simp, by simp, by simp, ?_, ?_, ?_⟩
    · intro j o' h1 h2 ho'
      by_cases hj : j = i
      · subst hj
        rw [hi] at ho'
        cases ho'
        simp only [if_true, Nat.add_eq_left, Nat.one_ne_zero, if_false]
        rw [hF, hL, hM]
        exact ⟨ha, rfl⟩
      · have h3 : j + 1 ≠ i := by omega
        simp only [hj, h3, if_false]
        exact hacts j o' (by omega) (by omega) ho'
    · cases cnt <;> simp at hlen ⊢ <;> omega
    · have h4 : i + (cnt + 1) ≠ i := by omega
      simp only [h4, if_false]
      have h5 : i + (cnt + 1) = i + 1 + cnt := by omega
      rw [h5]
      exact htail

/-! ### every order -/

theorem wpOp_mono2 {P : Program} {ops : Array Oper} {Q Q' : Exit → Act → World → Prop} (hq : ∀ e a w, Q e a w → Q' e a w) {i : Nat} {K K' : Act → World → Prop} (h : ∀ a w, K a w → K' a w) {a : Act} {w : World}
    (hh : wpOp P ops Q i K a w) : wpOp P ops Q' i K' a w := by
  unfold wpOp at *
  split
  · rename_i ho; simp only [ho] at hh; exact h _ _ hh
  · rename_i o ho
    simp only [ho] at hh
    split
    · rename_i hw
      simp only [hw, if_true] at hh
      rcases hh with h1 | ⟨h1, a0, w0, h2⟩
      · exact .inl (Oper.wp_mono2 h hq h1)
      · exact .inr ⟨h1, a0, w0, hq _ _ _ h2⟩
    · rename_i hw; simp only [hw] at hh; exact h _ _ hh

theorem wpAny_mono2 {P : Program} {ops : Array Oper} {Q Q' : Exit → Act → World → Prop} (hq : ∀ e a w, Q e a w → Q' e a w) : ∀ (fuel : Nat) (listed : Array Bool) (a : Act) (w : World),
    wpAny P .any ops Q fuel listed a w → wpAny P .any ops Q' fuel listed a w
  | 0, _, _, _, h => ⟨h.1, hq _ _ _ h.2⟩
  | fuel + 1, _, _, _, h => ⟨fun h0 => hq _ _ _ (h.1 h0), fun i hi => wpOp_mono2 hq (wpAny_mono2 hq fuel _) (h.2 i hi)⟩

def Ltd (listed : Array Bool) (j : Nat) : Prop := listed.getD j false = true

theorem Ltd.lt {listed : Array Bool} {j : Nat} (h : Ltd listed j) : j < listed.size := by
  unfold Ltd at h
  rcases Nat.lt_or_ge j listed.size with h' | h'
  · exact h'
  · simp [Array.getElem?_eq_none h'] at h

theorem not_ltd {listed : Array Bool} {j : Nat} (hj : j < listed.size) : listed.getD j true = false ↔ ¬ Ltd listed j := by
  unfold Ltd
  simp [hj]

theorem Ltd.set {listed : Array Bool} {i j : Nat} (hi : i < listed.size) : Ltd (listed.setIfInBounds i true) j ↔ Ltd listed j ∨ j = i := by
  unfold Ltd
  by_cases h : i = j
  · subst h
    simp [hi]
  · rw [getD_set_ne false h]
    constructor
    · exact .inl
    · rintro (h1 | h1)
      · exact h1
      · exact absurd h1.symm h

def left (listed : Array Bool) : Nat := listed.toList.count false

theorem left_set {listed : Array Bool} {i : Nat} (hi : i < listed.size) (hn : ¬ Ltd listed i) : left (listed.setIfInBounds i true) + 1 = left listed := by
  unfold left
  rw [Array.toList_setIfInBounds, List.count_set (by simpa using hi)]
  have h1 : listed.toList[i]'(by simpa using hi) = false := by
    unfold Ltd at hn
    simpa [hi] using hn
  have h2 : 0 < listed.toList.count false := List.count_pos_iff.2 (h1 ▸ List.getElem_mem _)
  simp only [h1, beq_self_eq_true, if_true]
  have h3 : (true == false) = false := rfl
  rw [h3]
  simp only [Bool.false_eq_true, if_false]
  omega

theorem left_zero {listed : Array Bool} (h : left listed = 0) {j : Nat} (hj : j < listed.size) : Ltd listed j := by
  unfold left at h
  unfold Ltd
  have h1 := List.count_eq_zero.1 h
  cases hx : listed[j] with
  | true => simp [hj, hx]
  | false => exact absurd (hx ▸ (by simp : listed[j] ∈ listed.toList)) h1

theorem left_pos {listed : Array Bool} {j : Nat} (hj : j < listed.size) (hn : ¬ Ltd listed j) : 0 < left listed := by
  rcases Nat.eq_zero_or_pos (left listed) with h | h
  · exact absurd (left_zero h hj) hn
  · exact h

/-- Behind a point each waits for all before it. -/
def chkTail (ops : List Oper) (k : Nat) : Bool :=
  let cl := clos ops
  (List.range ops.length).all fun i => Nat.blt i k || (List.range i).all fun j => (cl.getD i []).contains j

theorem chkTail_spec {ops : List Oper} {k : Nat} (h : chkTail ops k = true) {i j : Nat} (hi : i < ops.length) (hk : k ≤ i) (hj : j < i) : Reach ops i j := by
  have h1 := List.all_eq_true.1 h i (List.mem_range.2 hi)
  simp only [Bool.or_eq_true] at h1
  rcases h1 with h1 | h1
  · have := Nat.le_of_ble_eq_true h1
    omega
  · exact clos_spec (List.all_eq_true.1 h1 j (List.mem_range.2 hj))

theorem ready_iff {ops : List Oper} {listed : Array Bool} (hsz : listed.size = ops.length) {i : Nat} :
    i ∈ Region.ready .any ops.toArray listed ↔ ¬ Ltd listed i ∧ ∃ o, ops[i]? = some o ∧ ∀ e ∈ edgesOf o, Ltd listed e := by
  rw [mem_ready]
  constructor
  · rintro ⟨h0, o, ho, hall⟩
    rw [List.getElem?_toArray] at ho
    have hi : i < listed.size := by rw [hsz]; exact (List.getElem?_eq_some_iff.1 ho).1
    refine ⟨(not_ltd hi).1 h0, o, ho, fun e he => ?_⟩
    simp only [edgesOf, List.mem_map, List.mem_filter] at he
    obtain ⟨x, ⟨hx, hb⟩, rfl⟩ := he
    exact hall x (by simpa using hx) hb
  · rintro ⟨h0, o, ho, hall⟩
    have hi : i < listed.size := by rw [hsz]; exact (List.getElem?_eq_some_iff.1 ho).1
    refine ⟨(not_ltd hi).2 h0, o, by rw [List.getElem?_toArray]; exact ho, fun e he hb => ?_⟩
    exact hall _ (List.mem_map.2 ⟨e, List.mem_filter.2 ⟨by simpa using he, hb⟩, rfl⟩)

section
variable {n : Nat} {ops : List Oper} {effs : List Nat} {Q : APost} {ds : List CV} {k : Nat}

theorem exists_ready (hc : Chk ops effs) {listed : Array Bool} (hsz : listed.size = ops.length) : ∀ (d j : Nat), j ≤ d → j < ops.length → ¬ Ltd listed j → ∃ i, i ∈ Region.ready .any ops.toArray listed := by
  intro d
  induction d with
  | zero =>
    intro j hj hlt hn
    refine ⟨j, (ready_iff hsz).2 ⟨hn, ops[j], List.getElem?_eq_getElem hlt, fun e he => ?_⟩⟩
    have := hc.lt j _ e (List.getElem?_eq_getElem hlt) he
    omega
  | succ d ih =>
    intro j hj hlt hn
    by_cases hall : ∀ e ∈ edgesOf ops[j], Ltd listed e
    · exact ⟨j, (ready_iff hsz).2 ⟨hn, ops[j], List.getElem?_eq_getElem hlt, hall⟩⟩
    · have : ∃ e, e ∈ edgesOf ops[j] ∧ ¬ Ltd listed e := by
        refine Classical.byContradiction fun h => hall fun e he => Classical.byContradiction fun hne => h ⟨e, he, hne⟩
      obtain ⟨e, he, hne⟩ := this
      have := hc.lt j _ e (List.getElem?_eq_getElem hlt) he
      exact ih e (by omega) (by omega) hne

theorem wpAny_tail {QQ : Exit → Act → World → Prop} (hc : Chk ops effs) (ht : chkTail ops k = true) : ∀ (rest : List Oper) (p fuel : Nat) (listed : Array Bool) (a : Act) (w : World), ops.drop p = rest → k ≤ p →
    p ≤ ops.length → listed.size = ops.length → (∀ j, j < ops.length → (Ltd listed j ↔ j < p)) → rest.length ≤ fuel → wpList Try.prog ops.toArray QQ rest a w → wpAny Try.prog .any ops.toArray QQ fuel listed a w := by
  intro rest
  induction rest with
  | nil =>
    intro p fuel listed a w hr hk hp hsz hL _ h
    refine wpAny_done ?_ h fuel
    cases hrd : Region.ready .any ops.toArray listed with
    | nil => rfl
    | cons i r =>
      have hi : i ∈ Region.ready .any ops.toArray listed := by rw [hrd]; simp
      obtain ⟨h0, o, ho, _⟩ := (ready_iff hsz).1 hi
      have hlt := (List.getElem?_eq_some_iff.1 ho).1
      have : ops.length ≤ p := List.drop_eq_nil_iff.1 hr
      exact absurd ((hL i hlt).2 (by omega)) h0
  | cons o rest ih =>
    intro p fuel listed a w hr hk hp hsz hL hf h
    have hi : ops[p]? = some o := by
      have := congrArg (·[0]?) hr
      simpa using this
    have hlt : p < ops.length := (List.getElem?_eq_some_iff.1 hi).1
    have hr2 : ops.drop (p + 1) = rest := by
      have := congrArg List.tail hr
      simpa using this
    cases fuel with
    | zero => simp at hf
    | succ fuel =>
      have hrd : p ∈ Region.ready .any ops.toArray listed := by
        refine (ready_iff hsz).2 ⟨fun h => ?_, o, hi, fun e he => ?_⟩
        · have := (hL p hlt).1 h
          omega
        · have := hc.lt p o e hi he
          exact (hL e (by omega)).2 this
      refine ⟨fun h0 => (by rw [h0] at hrd; cases hrd), fun i hii => ?_⟩
      obtain ⟨h0, o', ho', hall⟩ := (ready_iff hsz).1 hii
      have hilt := (List.getElem?_eq_some_iff.1 ho').1
      have hpi : p = i := by
        rcases Nat.lt_trichotomy i p with h1 | h1 | h1
        · exact absurd ((hL i hilt).2 h1) h0
        · exact h1.symm
        · have hr := chkTail_spec ht hilt (by omega) h1
          have hd : Down ops (Ltd listed) := fun x ox e hx hox hex => (hL e (by have := hc.lt x ox e hox hex; have := (List.getElem?_eq_some_iff.1 hox).1; omega)).2 (by
            have := hc.lt x ox e hox hex
            have := (hL x (List.getElem?_eq_some_iff.1 hox).1).1 hx
            omega)
          have := hr.ready hd ho' hall
          have := (hL p hlt).1 this
          omega
      subst hpi
      have hps : p < listed.size := by omega
      have hnext : ∀ a w, wpList Try.prog ops.toArray QQ rest a w → wpAny Try.prog .any ops.toArray QQ fuel (listed.setIfInBounds p true) a w := by
        intro a w hw
        refine ih (p + 1) fuel _ a w hr2 (by omega) (by omega) (by simp [hsz]) (fun j hj => ?_) (by simpa using hf) hw
        rw [Ltd.set hps, hL j hj]
        omega
      unfold wpList at h
      unfold wpOp
      rw [List.getElem?_toArray, hi]
      simp only
      split
      · rename_i hw
        rw [if_pos hw] at h
        rcases h with h | h
        · exact .inl (Oper.wp_mono hnext h)
        · exact .inr h
      · rename_i hw
        rw [if_neg hw] at h
        exact hnext _ _ h

def FrInv (ops : List Oper) (V : Nat → CV) (fr0 : List (Nat × CV)) (L : Nat → Prop) (fr : List (Nat × CV)) : Prop :=
  ∀ t, (∀ j, L j → dstN ops j = some t → look fr t = some (V j)) ∧ ((∀ j, L j → dstN ops j ≠ some t) → look fr t = look fr0 t)

theorem FrInv.put {V : Nat → CV} {fr0 : List (Nat × CV)} {L L' : Nat → Prop} {fr : List (Nat × CV)} (hc : Chk ops effs) (h : FrInv ops V fr0 L fr) {i : Nat} {o : Oper} (hi : ops[i]? = some o)
    (hL : ∀ j, L' j ↔ L j ∨ j = i) : FrInv ops V fr0 L' (putF fr o.dst (V i)) := by
  have hdi : dstN ops i = o.dst := by simp [dstN, hi]
  intro t
  cases hd : o.dst with
  | none =>
    refine ⟨fun j hj hjt => ?_, fun hn => ?_⟩
    · rcases (hL j).1 hj with h1 | h1
      · exact (h t).1 j h1 hjt
      · subst h1
        rw [hdi, hd] at hjt
        cases hjt
    · exact (h t).2 fun j hj => hn j ((hL j).2 (.inl hj))
  | some d =>
    simp only [putF, look_cons]
    by_cases hdt : d = t
    · subst hdt
      simp only [if_true]
      refine ⟨fun j hj hjt => ?_, fun hn => ?_⟩
      · have := hc.dst i j d (hdi.trans hd) hjt
        rw [this]
      · exact absurd (hdi.trans hd) (hn i ((hL i).2 (.inr rfl)))
    · simp only [hdt, if_false]
      refine ⟨fun j hj hjt => ?_, fun hn => ?_⟩
      · rcases (hL j).1 hj with h1 | h1
        · exact (h t).1 j h1 hjt
        · subst h1
          rw [hdi, hd] at hjt
          cases hjt
          exact absurd rfl hdt
      · exact (h t).2 fun j hj => hn j ((hL j).2 (.inl hj))

theorem FrInv.same {V : Nat → CV} {fr0 : List (Nat × CV)} {L L' : Nat → Prop} {fr fr' : List (Nat × CV)} (h : FrInv ops V fr0 L fr) (h' : FrInv ops V fr0 L' fr') {t : Nat}
    (hL : ∀ j, dstN ops j = some t → (L j ↔ L' j)) : look fr t = look fr' t := by
  by_cases hex : ∃ j, L j ∧ dstN ops j = some t
  · obtain ⟨j, hj, hd⟩ := hex
    rw [(h t).1 j hj hd, (h' t).1 j ((hL j hd).1 hj) hd]
  · rw [(h t).2 fun j hj hd => hex ⟨j, hj, hd⟩, (h' t).2 fun j hj hd => hex ⟨j, (hL j hd).2 hj, hd⟩]

variable {V : Nat → CV} {F : Nat → List (Nat × CV)} {Lc : Nat → List (Nat × AObj)} {Ms : Nat → List AObj}

theorem Trace.frInv (hc : Chk ops effs) (hk : k ≤ ops.length) (h : Trace n ops effs Q ds k V F Lc Ms) : ∀ i, i ≤ k → FrInv ops V (F 0) (· < i) (F i) := by
  intro i
  induction i with
  | zero => intro _ t; exact ⟨fun j hj => absurd hj (Nat.not_lt_zero j), fun _ => rfl⟩
  | succ i ih =>
    intro hik
    have hi : ops[i]? = some ops[i] := List.getElem?_eq_getElem (by omega)
    rw [h.fr i _ (by omega) hi]
    exact (ih (by omega)).put hc hi (fun j => by omega)

theorem Trace.still (hk : k ≤ ops.length) (h : Trace n ops effs Q ds k V F Lc Ms) {i : Nat} (hi : i < k) (hn : i ∉ effs) : Lc (i + 1) = Lc i ∧ Ms (i + 1) = Ms i := by
  have ho : ops[i]? = some ops[i] := List.getElem?_eq_getElem (by omega)
  have := h.acts i _ hi ho
  generalize V i = v at this
  generalize hl : Lc (i + 1) = l' at this
  generalize hm : Ms (i + 1) = m' at this
  cases this with
  | skip => exact ⟨rfl, rfl⟩
  | free => exact ⟨rfl, rfl⟩
  | ord _ _ hor => exact hor.resolve_left hn

theorem Trace.stillTo (hk : k ≤ ops.length) (h : Trace n ops effs Q ds k V F Lc Ms) {c : Nat} : ∀ d, c + d ≤ k → (∀ e ∈ effs, c ≤ e → e < c + d → False) → Lc (c + d) = Lc c ∧ Ms (c + d) = Ms c := by
  intro d
  induction d with
  | zero => intro _ _; exact ⟨rfl, rfl⟩
  | succ d ih =>
    intro hd hno
    have h1 := ih (by omega) (fun e he h1 h2 => hno e he h1 (by omega))
    have h2 := h.still hk (i := c + d) (by omega) (fun hm => hno _ hm (by omega) (by omega))
    exact ⟨h2.1.trans h1.1, h2.2.trans h1.2⟩

theorem Trace.mem (hk : k ≤ ops.length) (h : Trace n ops effs Q ds k V F Lc Ms) {c i : Nat} (hc : c ≤ k) (hi : i ≤ k) (hb : ∀ e ∈ effs, e < c ↔ e < i) : Lc c = Lc i ∧ Ms c = Ms i := by
  rcases Nat.le_total c i with hle | hle
  · obtain ⟨d, rfl⟩ := Nat.exists_eq_add_of_le hle
    have := h.stillTo hk d hi (fun e he h1 h2 => by have := (hb e he).2 h2; omega)
    exact ⟨this.1.symm, this.2.symm⟩
  · obtain ⟨d, rfl⟩ := Nat.exists_eq_add_of_le hle
    exact h.stillTo hk d hc (fun e he h1 h2 => by have := (hb e he).1 h2; omega)

theorem any_main (hc : Chk ops effs) (ht : chkTail ops k = true) (hk : k ≤ ops.length) (heff : ∀ e ∈ effs, e < k) (hT : Trace n ops effs Q ds k V F Lc Ms)
    (htail : AOps Try.prog n ops.toArray Q (ops.drop k) { fr := F k, loc := Lc k, M := Ms k, ds := ds }) :
    ∀ (fuel : Nat) (listed : Array Bool) (fr : List (Nat × CV)) (c : Nat) (ρ : Rho) (w : World) (a : Act), listed.size = ops.length → left listed ≤ fuel → (∀ j, Ltd listed j → j < k) → Down ops (Ltd listed) →
      FrInv ops V (F 0) (Ltd listed) fr → c ≤ k → (∀ e ∈ effs, Ltd listed e ↔ e < c) → Sim n ρ { fr := fr, loc := Lc c, M := Ms c, ds := ds } w a →
      wpAny Try.prog .any ops.toArray (AQ n Q ρ { fr := fr, loc := Lc c, M := Ms c, ds := ds } w) fuel listed a w := by
  intro fuel
  induction fuel with
  | zero =>
    intro listed fr c ρ w a hsz hleft hLk hdown hfr hck hce hs
    have hall : ∀ j, j < ops.length → Ltd listed j := fun j hj => left_zero (by omega) (by omega)
    have hkl : k = ops.length := by
      rcases Nat.lt_or_ge k ops.length with h | h
      · exact absurd (hLk k (hall k h)) (by omega)
      · omega
    have hmem := hT.mem hk hck (Nat.le_refl k) (fun e he => by
      have := heff e he
      exact ⟨fun _ => this, fun _ => (hce e he).1 (hall e (by omega))⟩)
    rw [hmem.1, hmem.2] at hs ⊢
    have hs2 : Sim n ρ { fr := F k, loc := Lc k, M := Ms k, ds := ds } w a := hs.ext fun t => (hfr.same (hT.frInv hc hk k (Nat.le_refl k)) fun j hd => by
      have hj : j < ops.length := by
        unfold dstN at hd
        cases hq : ops[j]? with
        | none => simp [hq] at hd
        | some q => exact (List.getElem?_eq_some_iff.1 hq).1
      exact ⟨fun h => hLk j h, fun _ => hall j hj⟩)
    refine wpAny_tail (k := k) hc ht (ops.drop k) k 0 listed a w rfl (Nat.le_refl k) hk hsz (fun j hj => ⟨fun h => hLk j h, fun _ => hall j hj⟩) (by simp [hkl]) ?_
    exact wpList_mono2 (fun e a w h => AQ.trans (Evol.fr rfl) h) _ _ _ (htail ρ w a hs2)
  | succ fuel ih =>
    intro listed fr c ρ w a hsz hleft hLk hdown hfr hck hce hs
    by_cases hall : ∀ j, j < k → Ltd listed j
    · have hmem := hT.mem hk hck (Nat.le_refl k) (fun e he => by
        have := heff e he
        exact ⟨fun _ => this, fun _ => (hce e he).1 (hall e (by omega))⟩)
      rw [hmem.1, hmem.2] at hs ⊢
      have hs2 : Sim n ρ { fr := F k, loc := Lc k, M := Ms k, ds := ds } w a := hs.ext fun t => (hfr.same (hT.frInv hc hk k (Nat.le_refl k)) fun j hd => ⟨fun h => hLk j h, fun h => hall j h⟩)
      refine wpAny_tail (k := k) hc ht (ops.drop k) k (fuel + 1) listed a w rfl (Nat.le_refl k) hk hsz (fun j hj => ⟨fun h => hLk j h, fun h => hall j h⟩) ?_ (wpList_mono2 (fun e a w h => AQ.trans (Evol.fr rfl) h) _ _ _ (htail ρ w a hs2))
      refine Nat.le_trans ?_ hleft
      unfold left
      have h1 : listed.toList = listed.toList.take k ++ listed.toList.drop k := (List.take_append_drop _ _).symm
      have h2 : (listed.toList.drop k).count false = (listed.toList.drop k).length := by
        refine List.count_eq_length.2 fun b hb => ?_
        obtain ⟨m, hm, rfl⟩ := List.getElem_of_mem hb
        simp only [List.length_drop, Array.length_toList] at hm
        have h3 : ¬ Ltd listed (k + m) := fun h => by have := hLk _ h; omega
        unfold Ltd at h3
        have h4 : k + m < listed.size := by omega
        simp only [List.getElem_drop, Array.getElem_toList]
        simp [h4] at h3
        exact h3.symm
      rw [h1, List.count_append, h2]
      simp [hsz]
    · have hex : ∃ j, j < k ∧ ¬ Ltd listed j := by
        refine Classical.byContradiction fun h => hall fun j hj => Classical.byContradiction fun hn => h ⟨j, hj, hn⟩
      obtain ⟨j0, hj0, hn0⟩ := hex
      obtain ⟨i0, hi0⟩ := exists_ready hc hsz j0 j0 (Nat.le_refl _) (by omega) hn0
      refine ⟨fun h0 => (by rw [h0] at hi0; cases hi0), fun i hir => ?_⟩
      obtain ⟨hni, o, hi, hedges⟩ := (ready_iff hsz).1 hir
      have hilt : i < ops.length := (List.getElem?_eq_some_iff.1 hi).1
      have his : i < listed.size := by omega
      have hik : i < k := by
        rcases Nat.lt_or_ge i k with h | h
        · exact h
        · exact absurd ((chkTail_spec ht hilt h (by omega : j0 < i)).ready hdown hi hedges) hn0
      have hafter : ∀ e, Reach ops i e → Ltd listed e := fun e h => h.ready hdown hi hedges
      have hbefore : ∀ e, Reach ops e i → ¬ Ltd listed e := fun e h hl => hni (h.down hdown hl)
      have hFi := hT.frInv hc hk i (by omega)
      have hag : Agree (usesOf ops o) (F i) fr := fun t htu => hfr.same hFi fun j hd => by
        rcases hc.uses i o t j hi htu hd with h | h
        · exact ⟨fun _ => h.lt hc, fun _ => hafter j h⟩
        · exact ⟨fun h1 => absurd h1 (hbefore j h), fun h1 => by have := h.lt hc; omega⟩
      have hL' : ∀ j, Ltd (listed.setIfInBounds i true) j ↔ Ltd listed j ∨ j = i := fun j => Ltd.set his
      have hdown' : Down ops (Ltd (listed.setIfInBounds i true)) := by
        intro x ox e hx hox he
        rw [hL'] at hx ⊢
        rcases hx with hx | rfl
        · exact .inl (hdown x ox e hx hox he)
        · rw [hi] at hox
          cases hox
          exact .inl (hedges e he)
      have hfr' : FrInv ops V (F 0) (Ltd (listed.setIfInBounds i true)) (putF fr o.dst (V i)) := hfr.put hc hi hL'
      have hleft' : left (listed.setIfInBounds i true) ≤ fuel := by have := left_set his hni; omega
      have hLk' : ∀ j, Ltd (listed.setIfInBounds i true) j → j < k := fun j hj => by
        rcases (hL' j).1 hj with h | h
        · exact hLk j h
        · omega
      have hA := hT.acts i o hik hi
      -- where the world stands behind it
      have hord : (∀ e ∈ effs, e = i ∨ Reach ops i e ∨ Reach ops e i) → (Lc c = Lc i ∧ Ms c = Ms i) ∧ ∀ e ∈ effs, Ltd (listed.setIfInBounds i true) e ↔ e < i + 1 := by
        intro ho
        have h1 : ∀ e ∈ effs, e < c ↔ e < i := fun e he => by
          rw [← hce e he]
          rcases ho e he with h | h | h
          · subst h; exact ⟨fun h => absurd h hni, fun h => by omega⟩
          · exact ⟨fun _ => h.lt hc, fun _ => hafter e h⟩
          · exact ⟨fun h1 => absurd h1 (hbefore e h), fun h1 => by have := h.lt hc; omega⟩
        refine ⟨hT.mem hk hck (by omega) h1, fun e he => ?_⟩
        rw [hL', hce e he, h1 e he]
        omega
      have hstill : (Lc (i + 1) = Lc i ∧ Ms (i + 1) = Ms i) → ∃ c', c' ≤ k ∧ Lc c' = Lc c ∧ Ms c' = Ms c ∧ ∀ e ∈ effs, Ltd (listed.setIfInBounds i true) e ↔ e < c' := by
        rintro ⟨hl, hm⟩
        by_cases ho : ∀ e ∈ effs, e = i ∨ Reach ops i e ∨ Reach ops e i
        · obtain ⟨h1, h2⟩ := hord ho
          exact ⟨i + 1, by omega, hl.trans h1.1.symm, hm.trans h1.2.symm, h2⟩
        · have hie : i ∉ effs := fun hm => ho fun e he => hc.eff i e hm hilt he
          refine ⟨c, hck, rfl, rfl, fun e he => ?_⟩
          rw [hL', ← hce e he]
          exact ⟨fun h => h.elim id (fun h => absurd (h ▸ he) hie), .inl⟩
      unfold wpOp
      rw [List.getElem?_toArray, hi]
      simp only
      have hwants : Wants ops (F i) o → Region.wanted o (yielded ops.toArray a.tmps) = true := by
        rintro (hg | ⟨j, b, hg, hb⟩)
        · simp [Region.wanted, hg]
        · have : gval ops.toArray { fr := fr, loc := Lc c, M := Ms c, ds := ds } j = .bool b := by
            rw [gvalF_eq, ← hb]
            unfold gvalF
            cases hj : (ops[j]?).bind (·.dst) with
            | none => rfl
            | some t =>
              simp only
              rw [hag t (by simp [usesOf, hg, hj])]
          simp [Region.wanted, hg, yielded_of hs this]
      generalize hv : V i = v at hA hfr'
      generalize hl1 : Lc (i + 1) = l1 at hA hstill
      generalize hm1 : Ms (i + 1) = m1 at hA hstill
      cases hA with
      | skip hg hb hd =>
        rename_i j b
        obtain ⟨c', hc1, hc2, hc3, hc4⟩ := hstill ⟨rfl, rfl⟩
        have hgv : gskip (gval ops.toArray { fr := fr, loc := Lc c, M := Ms c, ds := ds } j) b = true := by
          rw [gvalF_eq, ← hb]
          unfold gvalF
          cases hj : (ops[j]?).bind (·.dst) with
          | none => rfl
          | some t =>
            simp only
            rw [hag t (by simp [usesOf, hg, hj])]
        rw [if_neg (by simp [Region.wanted, hg, unwanted_of hs hgv])]
        have hsim := hs.put hd (c := .tuple []) (v := undef) (.tuple [] #[] rfl (by simp))
        rw [put_fr] at hsim
        rw [← hc2, ← hc3] at hsim ⊢
        refine wpAny_mono2 (fun e a' w' hq => ?_) _ _ _ _ (ih _ _ c' ρ w _ (by simp [hsz]) hleft' hLk' hdown' hfr' hc1 hc4 hsim)
        have hev : Evol ρ { fr := fr, loc := Lc c', M := Ms c', ds := ds } w ρ { fr := putF fr o.dst (.tuple []), loc := Lc c', M := Ms c', ds := ds } w := by
          have := (Evol.refl ρ { fr := fr, loc := Lc c', M := Ms c', ds := ds } w).put o.dst (.tuple [])
          rw [put_fr] at this
          exact this
        exact AQ.trans hev hq
      | free hw h =>
        obtain ⟨c', hc1, hc2, hc3, hc4⟩ := hstill ⟨rfl, rfl⟩
        rw [if_pos (hwants hw)]
        refine .inl (Oper.wp_mono2 ?_ (fun _ _ _ h => h) (h fr (Lc c) (Ms c) hag ρ w a hs))
        rintro a' w' ⟨s', ρ', rfl, hsim, hev⟩
        rw [← hc2, ← hc3] at hsim hev ⊢
        exact wpAny_mono2 (fun e a w h => AQ.trans hev h) _ _ _ _ (ih _ _ c' ρ' w' a' (by simp [hsz]) hleft' hLk' hdown' hfr' hc1 hc4 hsim)
      | ord hw ho hm h =>
        obtain ⟨h1, h2⟩ := hord fun e he => ordB_spec (List.all_eq_true.1 ho e he)
        rw [if_pos (hwants hw)]
        rw [h1.1, h1.2] at hs ⊢
        refine .inl (Oper.wp_mono2 ?_ (fun _ _ _ h => h) (h fr hag ρ w a hs))
        rintro a' w' ⟨s', ρ', rfl, hsim, hev⟩
        subst hl1; subst hm1
        exact wpAny_mono2 (fun e a w h => AQ.trans hev h) _ _ _ _ (ih _ _ (i + 1) ρ' w' a' (by simp [hsz]) hleft' hLk' hdown' hfr' (by omega) h2 hsim)

theorem mixed : Try.prog.follows .mixedOrders = true := by kernel_rfl

theorem AWp.draw {id : Nat} {fr : List (Nat × CV)} {loc : List (Nat × AObj)} {M : List AObj} (effs : List Nat) (k : Nat) (hk : Nat.ble k ops.length = true) (hc : chkD ops effs = true) (ht : chkTail ops k = true)
    (heff : effs.all (fun e => Nat.blt e k) = true) (h : DOps n ops effs Q ds k 0 ops fr loc M) : AWp Try.prog n (.region id ops.toArray true) Q { fr := fr, loc := loc, M := M, ds := ds } := by
  intro ρ w a hs
  obtain ⟨V, F, L, Ms, hF, hL, hM, hacts, _, htail⟩ := DOps.trace k 0 ops fr loc M rfl h
  subst hF; subst hL; subst hM
  have hc' := chk_spec hc
  have hkl : k ≤ ops.length := Nat.le_of_ble_eq_true hk
  simp only [Nat.zero_add] at htail hacts
  have hT : Trace n ops effs Q ds k V F L Ms := ⟨fun i o hi ho => (hacts i o (Nat.zero_le _) hi ho).1, fun i o hi ho => (hacts i o (Nat.zero_le _) hi ho).2⟩
  have hg : Grew w { w with drawn := w.drawn + 1 } := ⟨rfl, rfl, rfl, Nat.le_refl _, fun _ _ => rfl⟩
  refine wp_region_any mixed ?_
  have hnone : ∀ j, ¬ Ltd (Array.replicate ops.toArray.size false) j := fun j hj => by
    have := hj.lt
    unfold Ltd at hj
    simp only [Array.size_replicate] at this
    simp [Array.getD] at hj
  refine wpAny_mono2 (fun e a' w' hq => AQ.trans hg.evol hq) _ _ _ _
    (any_main hc' ht hkl (fun e he => by have := List.all_eq_true.1 heff e he; exact Nat.le_of_ble_eq_true this) hT htail ops.toArray.size _ (F 0) 0 ρ _ a (by simp) ?_ (fun j hj => absurd hj (hnone j))
      (fun i o e hi => absurd hi (hnone i)) (fun t => ⟨fun j hj => absurd hj (hnone j), fun _ => rfl⟩) (Nat.zero_le _) (fun e _ => ⟨fun h => absurd h (hnone e), fun h => absurd h (Nat.not_lt_zero e)⟩) (hg.sim hs))
  unfold left
  exact Nat.le_trans List.count_le_length (by simp)

end
end Go.Proofs.Ytceocfancfjdjaa
