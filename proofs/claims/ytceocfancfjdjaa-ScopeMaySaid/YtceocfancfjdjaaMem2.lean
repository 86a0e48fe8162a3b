/- The operations that write blocks, build rows, append, keep maps; calls. No condition. -/
import Derived.Test.YtceocfancfjdjaaMem
import Derived.MapKept
import Derived.WideMake
import Derived.Laws.MakeOwn
namespace Go.Proofs.Ytceocfancfjdjaa
open Go Go.RowKit

section
variable {n : Nat} {ρ : Rho} {s : AS} {w : World} {a : Act}

theorem getU {o : Nm} {x : AObj} (hx : s.get o = some x) (x' : AObj) (o' : Nm) : (s.upd o x').get o' = if o' = o then some x' else s.get o' := by
  cases o with
  | l t => exact getL s t x' o'
  | g i =>
    have hlt : i < s.M.length := (List.getElem?_eq_some_iff.1 hx).1
    cases o' with
    | l t' => simp [AS.get, AS.upd]
    | g j =>
      show (s.M.set i x')[j]? = _
      by_cases h : j = i
      · subst h; simp [hlt]
      · simp [h, List.getElem?_set_ne (Ne.symm h), AS.get]

/-- A block that is written where it lies. -/
theorem Turn.write {w' : World} {o : Nm} {x x' : AObj} (hx : s.get o = some x) (hv : x'.ver = x.ver) (hos : w'.os = w.os) (ht : w'.tape = w.tape) (ho : w'.output = w.output)
    (hsz : w'.heap.size = w.heap.size) (hw : ∀ b, b ≠ (ρ o x.ver).1 → w'.heap[b]? = w.heap[b]?) : Turn ρ s w ρ (s.upd o x') w' o x' := by
  refine ⟨rfl, hos, ht, ho, by omega, fun o' ho' => by simp [getU hx, ho'], by simp [getU hx], fun y hy => ?_, fun _ _ _ => rfl, .inl ⟨x, hx, by rw [hv]⟩, fun b _ hb => hw b (hb x hx)⟩
  rw [hx] at hy
  cases hy
  omega

theorem upd_fr (o : Nm) (x : AObj) : (s.upd o x).fr = s.fr := by cases o <;> rfl
theorem upd_ds (o : Nm) (x : AObj) : (s.upd o x).ds = s.ds := by cases o <;> rfl

theorem splice_get {α : Type} (x y : List α) (off k m : Nat) (hk : y.length = k) (hfit : off + k ≤ x.length) :
    (x.take off ++ y ++ x.drop (off + k))[m]? = if off ≤ m ∧ m < off + k then y[m - off]? else x[m]? := by
  have h1 : (x.take off).length = off := by simp; omega
  have h2 : (x.take off ++ y).length = off + k := by simp only [List.length_append, h1, hk]
  by_cases m1 : m < off
  · rw [if_neg (by omega), List.append_assoc, List.getElem?_append_left (by omega), List.getElem?_take, if_pos m1]
  · by_cases m2 : m < off + k
    · rw [if_pos (by omega), List.getElem?_append_left (by omega), List.getElem?_append_right (by omega), h1]
    · rw [if_neg (by omega), List.getElem?_append_right (by omega), h2, List.getElem?_drop, show off + k + (m - (off + k)) = m by omega]

theorem run_store_row {t : TypeId} {b : Bool} {k : Nat} (htk : tk t = some (b, k)) {g off : Nat} {cur : Array Value} {e : TypeId} (hg : w.heap[g]? = some (.cells cur e (0, 0)))
    {v : Value} (hk : v.cells.size = k) (hfit : off + k ≤ cur.size) (h1 : ∀ x ∈ v.cells.toList, x.oneCell' = true) :
    (Instr.storeAt t (.pointer (some ⟨g, off, none⟩)) v).run Try.prog w =
      .ok () (w.setRow g (cur.toList.take off ++ v.cells.toList ++ cur.toList.drop (off + k)).toArray) := by
  have := run_storeCells_at Try.prog g off e v.cells.toList 0 cur w hg (by simp; omega) h1
  simp only [Nat.add_zero, Array.length_toList, hk] at this
  simp only [List.append_assoc] at this ⊢
  simp [Instr.storeAt, Instr.sureAddr, storeVar, tk_size htk, hk]
  exact this

end

section
variable {n : Nat} {Q : APost} {s : AS} {o : Oper} {K : AS → Prop}

/-- A store into a variable. -/
theorem AOp.store {t : TypeId} {p x : Operand} {nm : Nm} {off k : Nat} {b : Bool} {cs ys cs' : List CV} (ho : o.op = .store t p x) (hdst : o.dst = none) (hp : s.ev p = .ptr nm 0 off)
    (hg : s.get nm = some (.box cs)) (htk : tk t = some (b, k)) (hys : (s.ev x).cells = ys) (hf : flat (s.ev x) = true) (hk : ys.length = k) (hset : setK cs off ys = some cs')
    (hgl : glOk nm (.box cs') = true) (kk : K (s.upd nm (.box cs'))) : AOp Try.prog n o K Q s := by
  intro ρ w a hs
  have hx := (hs.ev x).cells hf
  rw [hys] at hx
  have hpv := hs.ev p
  rw [hp] at hpv
  generalize hva : a.eval p = va at hpv
  cases hpv with
  | ptr _ _ _ hok =>
    obtain ⟨cur, e, hb, hV⟩ := hs.rel.obj _ _ hg
    have hvk : (a.eval x).cells.size = k := by have := hx.1; simp at this; omega
    have hsp := setK_spec _ _ _ _ hset
    have hcl : cs.length = cur.size := by simpa using hV.1
    have hrun := run_store_row (w := w) htk hb (v := a.eval x) (off := off) hvk (by omega) (hx.allOne (hys ▸ flat_ones hf))
    unfold Oper.wp
    have hr : (execOp a.eval o).run Try.prog w = .ok .skip (w.setRow (ρ nm 0).1 (cur.toList.take off ++ (a.eval x).cells.toList ++ cur.toList.drop (off + k)).toArray) := by
      simp only [execOp, ho, hva]
      rw [Sem.run_bind, hrun]
      rfl
    rw [hr]
    have ht : Turn ρ s w ρ (s.upd nm (.box cs')) (w.setRow (ρ nm 0).1 (cur.toList.take off ++ (a.eval x).cells.toList ++ cur.toList.drop (off + k)).toArray) nm (.box cs') :=
      Turn.write hg rfl rfl rfl rfl (by simp) (fun b hb' => setRow_other w _ b _ hb')
    refine ⟨_, ρ, kk, ?_, ht.evol⟩
    have hsim := ht.sim hs (upd_fr _ _) (upd_ds _ _) ⟨_, e, setRow_heap w _ cur _ e _ hb, ?_⟩ (glOk_spec hgl)
    · rw [hdst]; exact hsim
    · have h3 := (VL.setK hV hx hset).1
      have hl2 : (a.eval x).cells.toList.length = k := by simpa using hvk
      rw [hl2] at h3
      exact ⟨by simpa using h3.1, fun j c v hc hv => ht.val (h3.2 j c v hc (by simpa using hv))⟩

/-- A store into an array. -/
theorem AOp.storeA {t : TypeId} {p x : Operand} {nm : Nm} {ver off k sz : Nat} {e : TypeId} {b : Bool} {cs ys cs' : List CV} (ho : o.op = .store t p x) (hdst : o.dst = none) (hp : s.ev p = .ptr nm ver off)
    (hg : s.get nm = some (.arr ver e sz cs)) (htk : tk t = some (b, k)) (hys : (s.ev x).cells = ys) (hf : flat (s.ev x) = true) (hk : ys.length = k) (hset : setK cs off ys = some cs')
    (hgl : glOk nm (.arr ver e sz cs') = true) (kk : K (s.upd nm (.arr ver e sz cs'))) : AOp Try.prog n o K Q s := by
  intro ρ w a hs
  have hx := (hs.ev x).cells hf
  rw [hys] at hx
  have hpv := hs.ev p
  rw [hp] at hpv
  generalize hva : a.eval p = va at hpv
  cases hpv with
  | ptr _ _ _ hok =>
    obtain ⟨cur, hb, hl, hV, hcap⟩ := hs.rel.obj _ _ hg
    have hvk : (a.eval x).cells.size = k := by have := hx.1; simp at this; omega
    have hsp := setK_spec _ _ _ _ hset
    have hrun := run_store_row (w := w) htk hb (v := a.eval x) (off := off) hvk (by omega) (hx.allOne (hys ▸ flat_ones hf))
    unfold Oper.wp
    have hr : (execOp a.eval o).run Try.prog w = .ok .skip (w.setRow (ρ nm ver).1 (cur.toList.take off ++ (a.eval x).cells.toList ++ cur.toList.drop (off + k)).toArray) := by
      simp only [execOp, ho, hva]
      rw [Sem.run_bind, hrun]
      rfl
    rw [hr]
    have ht : Turn ρ s w ρ (s.upd nm (.arr ver e sz cs')) (w.setRow (ρ nm ver).1 (cur.toList.take off ++ (a.eval x).cells.toList ++ cur.toList.drop (off + k)).toArray) nm (.arr ver e sz cs') :=
      Turn.write hg rfl rfl rfl rfl (by simp) (fun b hb' => setRow_other w _ b _ hb')
    have hl2 : (a.eval x).cells.toList.length = k := by simpa using hvk
    have hcl : cs'.length = cs.length := by rw [hsp.2]; simp; omega
    refine ⟨_, ρ, kk, ?_, ht.evol⟩
    have hsim := ht.sim hs (upd_fr _ _) (upd_ds _ _) ⟨_, setRow_heap w _ cur _ e _ hb, ?_, ?_, ?_, hcap.2⟩ (glOk_spec hgl)
    · rw [hdst]; exact hsim
    · simp; omega
    · have h3 := (VL.setK hV hx hset).1
      rw [hl2] at h3
      rw [hcl]
      refine ⟨by simp; omega, fun j c v hc hv => ht.val (h3.2 j c v hc ?_)⟩
      rw [List.getElem?_take] at hv
      split at hv
      · rename_i hj
        rw [splice_get _ _ _ _ _ hl2 (by simp; omega)]
        have hv' : (cur.toList.take off ++ (a.eval x).cells.toList ++ cur.toList.drop (off + k))[j]? = some v := by simpa using hv
        rw [splice_get _ _ _ _ _ hl2 (by simp; omega)] at hv'
        rw [List.getElem?_take, if_pos hj]
        exact hv'
      · cases hv
    · have := hcap.1
      simp; omega

/-! ### rows that are built -/

def fillC (place : Nat → Option (Nat × Nat)) : List CV → List (Nat × CV) → Option (List CV)
  | cs, [] => some cs
  | cs, (i, c) :: r => match place i with
    | some (off, size) => bif Nat.beq c.cells.length size then
        match setK cs off c.cells with
        | some cs' => fillC place cs' r
        | none => none
      else none
    | none => none

theorem foldl_set (off : Nat) : ∀ (l : List Value) (k : Nat) (cells : Array Value),
    ((l.zipIdx k).foldl (fun (cs : Array Value) (p : Value × Nat) => cs.setIfInBounds (off + p.2) p.1) cells).size = cells.size ∧
    ∀ m, ((l.zipIdx k).foldl (fun (cs : Array Value) (p : Value × Nat) => cs.setIfInBounds (off + p.2) p.1) cells)[m]? =
      if off + k ≤ m ∧ m < off + k + l.length ∧ m < cells.size then l[m - (off + k)]? else cells[m]? := by
  intro l
  induction l with
  | nil => intro k cells; simp; omega
  | cons v l ih =>
    intro k cells
    have := ih (k + 1) (cells.setIfInBounds (off + k) v)
    simp only [List.zipIdx_cons, List.foldl_cons]
    refine ⟨by rw [this.1]; simp, fun m => ?_⟩
    rw [this.2 m]
    simp only [Array.size_setIfInBounds, List.length_cons]
    by_cases h1 : m = off + k
    · subst h1
      rw [if_neg (by omega)]
      by_cases h2 : off + k < cells.size
      · simp [h2]
      · simp [h2]
    · rw [Array.getElem?_setIfInBounds_ne (by omega)]
      by_cases h2 : off + (k + 1) ≤ m ∧ m < off + (k + 1) + l.length ∧ m < cells.size
      · rw [if_pos h2, if_pos ⟨by omega, by omega, h2.2.2⟩]
        rw [show m - (off + k) = (m - (off + (k + 1))) + 1 by omega]
        simp
      · rw [if_neg h2, if_neg (by omega)]

def RPart (R : CV → Value → Prop) (p : Nat × CV) (q : Nat × Value) : Prop := p.1 = q.1 ∧ R p.2 q.2 ∧ flat p.2 = true

theorem fill_rel {ρ : Rho} {w : World} {O : Nat → Prop} {N : Nm → Nat → Prop} (place : Nat → Option (Nat × Nat)) :
    ∀ (ps : List (Nat × CV)) (qs : List (Nat × Value)) (cs cs' : List CV) (cells : Array Value), ps.length = qs.length →
      (∀ (j : Nat) (p : Nat × CV) (q : Nat × Value), ps[j]? = some p → qs[j]? = some q → RPart (V ρ w O N) p q) → VL (V ρ w O N) cs cells.toList → fillC place cs ps = some cs' →
      ∃ cells', Instr.fill place cells qs = some cells' ∧ VL (V ρ w O N) cs' cells'.toList
  | [], [], cs, cs', cells, _, _, hV, h => by
    simp [fillC] at h
    subst h
    exact ⟨cells, rfl, hV⟩
  | [], _ :: _, _, _, _, hl, _, _, _ => by simp at hl
  | _ :: _, [], _, _, _, hl, _, _, _ => by simp at hl
  | (i, c) :: ps, (i', v) :: qs, cs, cs', cells, hl, hR, hV, h => by
    obtain ⟨hi, hcv, hf⟩ := hR 0 _ _ rfl rfl
    simp only at hi hcv hf
    subst hi
    simp only [fillC] at h
    split at h
    · rename_i off size hp
      cases hb : Nat.beq c.cells.length size with
      | false => simp [hb] at h
      | true =>
        simp only [hb, cond_true] at h
        split at h
        · rename_i cs1 hset
          have hcells := hcv.cells hf
          have hsz : v.cells.size = size := by
            have h1 := hcells.1
            have h2 := Nat.eq_of_beq_eq_true hb
            simp at h1; omega
          have hsp := setK_spec _ _ _ _ hset
          have hcl : cs.length = cells.size := by simpa using hV.1
          have hfit : off + v.cells.size ≤ cells.size := by have h1 := hcells.1; simp at h1; omega
          have hfold := foldl_set off v.cells.toList 0 cells
          have hfa : v.cells.zipIdx.foldl (fun (cs : Array Value) (p : Value × Nat) => cs.setIfInBounds (off + p.2) p.1) cells =
              (v.cells.toList.zipIdx 0).foldl (fun (cs : Array Value) (p : Value × Nat) => cs.setIfInBounds (off + p.2) p.1) cells := by
            rw [← Array.foldl_toList]
            simp
          have hV1 : VL (V ρ w O N) cs1 (v.cells.zipIdx.foldl (fun (cs : Array Value) (p : Value × Nat) => cs.setIfInBounds (off + p.2) p.1) cells).toList := by
            have h3 := (VL.setK hV hcells hset).1
            have hvl : v.cells.toList.length = v.cells.size := by simp
            rw [hvl] at h3
            rw [hfa]
            refine ⟨?_, fun j c' v' hc hv => h3.2 j c' v' hc ?_⟩
            · have h6 := h3.1
              refine Eq.trans ?_ Array.length_toList.symm
              rw [hfold.1]
              simp only [List.length_append, List.length_take, List.length_drop, Array.length_toList] at h6
              omega
            · rw [Array.getElem?_toList, hfold.2] at hv
              simp only [Nat.add_zero, Array.length_toList] at hv
              rw [splice_get _ _ _ _ _ hvl (by simpa using hfit)]
              by_cases h1 : off ≤ j ∧ j < off + v.cells.size
              · rw [if_pos ⟨h1.1, h1.2, by omega⟩] at hv
                rw [if_pos h1]
                exact hv
              · rw [if_neg (by omega)] at hv
                rw [if_neg h1]
                simpa using hv
          obtain ⟨cells', h4, h5⟩ := fill_rel place ps qs cs1 cs' _ (by simpa using hl) (fun j p q hp hq => hR (j + 1) p q (by simpa using hp) (by simpa using hq)) hV1 h
          refine ⟨cells', ?_, h5⟩
          simp only [Instr.fill, hp]
          rw [if_neg (by simp [hsz]; omega)]
          exact h4
        · cases h
    · cases h

/-- The parts of a literal, as the frame has them. -/
def parts (s : AS) (ps : Array (Nat × Operand)) : List (Nat × CV) := ps.toList.map fun p => (p.1, s.ev p.2)

def flats : List (Nat × CV) → Bool
  | [] => true
  | p :: r => flat p.2 && flats r

theorem flats_get {ps : List (Nat × CV)} (h : flats ps = true) {j : Nat} {p : Nat × CV} (hj : ps[j]? = some p) : flat p.2 = true := by
  induction ps generalizing j with
  | nil => simp at hj
  | cons d r ih =>
    simp only [flats, Bool.and_eq_true] at h
    cases j with
    | zero => simp at hj; subst hj; exact h.1
    | succ j => exact ih h.2 (by simpa using hj)

theorem parts_rel {ρ : Rho} {w : World} {a : Act} (hs : Sim n ρ s w a) (ps : Array (Nat × Operand)) (hf : flats (parts s ps) = true) (f : Nat × Operand → Nat × Value)
    (hfe : ∀ p, f p = (p.1, a.eval p.2)) :
    (parts s ps).length = (ps.map f).toList.length ∧
    ∀ (j : Nat) (p : Nat × CV) (q : Nat × Value), (parts s ps)[j]? = some p → (ps.map f).toList[j]? = some q → RPart (VS ρ s w) p q := by
  refine ⟨by simp [parts], fun j p q hp hq => ?_⟩
  have hfl := flats_get hf hp
  simp only [parts, List.getElem?_map, Array.getElem?_toList] at hp
  simp only [Array.getElem?_toList, Array.getElem?_map] at hq
  cases h : ps[j]? with
  | none => simp [h] at hp
  | some x =>
    simp [h] at hp hq
    subst hp
    rw [hfe] at hq
    subst hq
    exact ⟨rfl, hs.ev x.2, hfl⟩

/-- The places of a struct's, or an array's, parts. -/
def bplace : TypeId → Nat → Option (Nat × Nat)
  | 25 => fun x => [(0, 1), (1, 1), (2, 1), (3, 1), (4, 1), (5, 1), (6, 1)][x]?
  | 32 => fun x => [(0, 1), (1, 1)][x]?
  | 41 => fun x => [(0, 1), (1, 1), (2, 1)][x]?
  | 44 => fun x => [(0, 1), (1, 1)][x]?
  | 50 => fun x => [(0, 2), (2, 1), (3, 1)][x]?
  | 77 => fun i => some (i, 1)
  | _ => fun _ => none

def isBuilt : TypeId → Bool
  | 25 => true
  | 32 => true
  | 41 => true
  | 44 => true
  | 50 => true
  | 77 => true
  | _ => false

theorem run_build {t : TypeId} {cs : List CV} (ht : isBuilt t = true) (hz : tzero t = some cs) : ∃ z : Value, cs = z.cells.toList.map cvOf ∧
    ∀ w ps cells, Instr.fill (bplace t) z.cells (ps : Array (Nat × Value)).toList = some cells → (Instr.build t ps).run Try.prog w = .ok (.agg cells) w := by
  obtain ⟨z, hzr, hzc⟩ := tzero_ok hz
  refine ⟨z, hzc, fun w ps cells hf => ?_⟩
  unfold isBuilt at ht
  split at ht <;> (try (cases ht; done)) <;> simp only [bplace] at hf
  · simp [Instr.build, hzr, run_underlying Try.underlying25, size_of_info info3, size_of_info info9, size_of_info info22, size_of_info info23, hf]
  · simp [Instr.build, hzr, run_underlying Try.underlying32, size_of_info info3, size_of_info info30, hf]
  · simp [Instr.build, hzr, run_underlying Try.underlying41, size_of_info info3, size_of_info info23, hf]
  · simp [Instr.build, hzr, run_underlying Try.underlying44, size_of_info info3, size_of_info info33, hf]
  · simp [Instr.build, hzr, run_underlying Try.underlying50, size_of_info info32, size_of_info info48, hf]
  · simp [Instr.build, hzr, run_underlying Try.underlying77, size_of_info info9, hf]

theorem AOp.build {t : TypeId} {ps : Array (Nat × Operand)} {cs cs' : List CV} (ho : o.op = .build t ps) (ht : isBuilt t = true) (hz : tzero t = some cs)
    (hfl : flats (parts s ps) = true) (hfill : fillC (bplace t) cs (parts s ps) = some cs') (hd : dstOk n o.dst = true) (k : K (s.put o.dst (.agg cs'))) : AOp Try.prog n o K Q s := by
  intro ρ w a hs
  obtain ⟨z, hzc, hb⟩ := run_build ht hz
  have hp := parts_rel hs ps hfl (fun p => (p.1, a.eval p.2)) (fun _ => rfl)
  obtain ⟨cells, h1, h2⟩ := fill_rel (bplace t) _ _ cs cs' z.cells hp.1 hp.2 (by rw [hzc]; exact VL.lits _) hfill
  unfold Oper.wp
  have hr : (execOp a.eval o).run Try.prog w = .ok (.value (.agg cells)) w := by
    simp only [execOp, ho]
    rw [Sem.run_bind, hb w _ cells h1]
    rfl
  rw [hr]
  exact ⟨s.put o.dst (.agg cs'), ρ, k, hs.put hd (.agg _ _ (by simpa using h2.1) (fun j c v hc hv => h2.2 j c v hc (by simpa using hv))), (Evol.refl ρ s w).put _ _⟩

end
end Go.Proofs.Ytceocfancfjdjaa
