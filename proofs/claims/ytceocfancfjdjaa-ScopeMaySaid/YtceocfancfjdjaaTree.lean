/- Nodes as trees; how they lie in rows; loops. No condition. -/
import Derived.Test.YtceocfancfjdjaaWalk
namespace Go.Proofs.Ytceocfancfjdjaa
open Go Go.RowKit

/-- A node. -/
inductive Tree where
  | mk (kind op num : Int) (s : ByteArray) (names : List ByteArray) (kids : List Tree) (pos : Int)

namespace Tree
def kind : Tree → Int | .mk k _ _ _ _ _ _ => k
def op : Tree → Int | .mk _ o _ _ _ _ _ => o
def num : Tree → Int | .mk _ _ n _ _ _ _ => n
def s : Tree → ByteArray | .mk _ _ _ s _ _ _ => s
def names : Tree → List ByteArray | .mk _ _ _ _ ns _ _ => ns
def kids : Tree → List Tree | .mk _ _ _ _ _ ks _ => ks
def pos : Tree → Int | .mk _ _ _ _ _ _ p => p
end Tree

mutual
theorem Tree.ind {P : Tree → Prop} (h : ∀ k o n s ns ks p, (∀ t, t ∈ ks → P t) → P (Tree.mk k o n s ns ks p)) : ∀ t, P t
  | .mk k o n s ns ks p => h k o n s ns ks p (Tree.inds h ks)
theorem Tree.inds {P : Tree → Prop} (h : ∀ k o n s ns ks p, (∀ t, t ∈ ks → P t) → P (Tree.mk k o n s ns ks p)) : ∀ (l : List Tree), ∀ t, t ∈ l → P t
  | [], _, ht => by cases ht
  | t :: r, x, hx => by
    rcases List.mem_cons.1 hx with e | hx'
    · rw [e]; exact Tree.ind h t
    · exact Tree.inds h r x hx'
end

mutual
/-- Nothing in it is longer than there is room for. -/
def Tree.small : Tree → Prop
  | .mk _ _ _ s ns ks _ => s.size < 281474976710656 ∧ ns.length < 281474976710656 ∧ ks.length < 281474976710656 ∧ (∀ x, x ∈ ns → x.size < 281474976710656) ∧ smalls ks
def smalls : List Tree → Prop
  | [] => True
  | t :: r => t.small ∧ smalls r
end

theorem smalls_mem {l : List Tree} (h : smalls l) {t : Tree} (ht : t ∈ l) : t.small := by
  induction l with
  | nil => cases ht
  | cons x r ih =>
    rcases List.mem_cons.1 ht with e | h'
    · rw [e]; exact h.1
    · exact ih h.2 h'

def strs (l : List ByteArray) : List CV := l.map .str

mutual
def Tree.cells : Tree → List CV
  | .mk k o n s ns ks p => [.int .i64 k, .int .i64 o, .int .i64 n, .str s, .islice (strs ns) ns.length, .islice (rows ks) ks.length, .int .i64 p]
def rows : List Tree → List CV
  | [] => []
  | t :: r => t.cells ++ rows r
end

def Tree.cv (t : Tree) : CV := .agg t.cells

theorem Tree.cells_length (t : Tree) : t.cells.length = 7 := by cases t; rfl

theorem rows_length (l : List Tree) : (rows l).length = l.length * 7 := by
  induction l with
  | nil => rfl
  | cons t r ih => simp only [rows, List.length_append, Tree.cells_length, ih, List.length_cons]; omega

theorem rows_append (a b : List Tree) : rows (a ++ b) = rows a ++ rows b := by
  induction a with
  | nil => rfl
  | cons t r ih => simp [rows, ih]

theorem Tree.pures_cells (t : Tree) : pures t.cells = true := by cases t; rfl
theorem Tree.ones_cells (t : Tree) : ones t.cells = true := by cases t; rfl

theorem pures_rows (l : List Tree) : pures (rows l) = true := by
  induction l with
  | nil => rfl
  | cons t r ih => simp [rows, pures_append, Tree.pures_cells, ih]

theorem ones_rows (l : List Tree) : ones (rows l) = true := by
  induction l with
  | nil => rfl
  | cons t r ih => simp [rows, ones_append, Tree.ones_cells, ih]

theorem pures_strs (l : List ByteArray) : pures (strs l) = true := by
  induction l with
  | nil => rfl
  | cons t r ih => simpa [strs, pures, pureC] using ih

theorem ones_strs (l : List ByteArray) : ones (strs l) = true := by
  induction l with
  | nil => rfl
  | cons t r ih => simpa [strs, ones, CV.one] using ih

theorem strs_length (l : List ByteArray) : (strs l).length = l.length := by simp [strs]

/-- A row's part, drawn out. -/
theorem take_drop_rows : ∀ (l : List Tree) (k : Nat) (h : k < l.length), ((rows l).drop (k * 7)).take 7 = (l[k]).cells
  | [], k, h => by simp at h
  | t :: r, 0, _ => by
    simp only [rows, Nat.zero_mul, List.drop_zero, List.getElem_cons_zero]
    rw [List.take_append_of_le_length (by rw [Tree.cells_length]; omega), List.take_of_length_le (by rw [Tree.cells_length]; omega)]
  | t :: r, k + 1, h => by
    simp only [rows, List.getElem_cons_succ]
    rw [List.drop_append, List.drop_eq_nil_of_le (by rw [Tree.cells_length]; omega), List.nil_append, Tree.cells_length,
      show (k + 1) * 7 - 7 = k * 7 by omega]
    exact take_drop_rows r k (by simpa using h)

theorem ld_agg {t k : Nat} {row l : List CV} {off : Nat} (ht : tk t = some (true, k)) (hle : off + k ≤ row.length) (hl : (row.drop off).take k = l) : ld t row off = some (.agg l) := by
  unfold ld
  rw [ht, dropK_of (by omega)]
  simp only
  rw [takeK_of (by simp; omega), hl]

theorem ld_one {t k : Nat} {row : List CV} {off : Nat} {c : CV} (ht : tk t = some (false, k)) (hc : row[off]? = some c) : ld t row off = some c := by
  have hlt := (List.getElem?_eq_some_iff.1 hc).1
  have he := (List.getElem?_eq_some_iff.1 hc).2
  unfold ld
  rw [ht, dropK_of (by omega), List.drop_eq_getElem_cons hlt, he]

theorem ld_kid {l : List Tree} {k : Nat} (h : k < l.length) : ld 25 (rows l) ((k : Int).toNat * 7) = some (.agg (l[k]).cells) := by
  rw [Int.toNat_natCast]
  exact ld_agg rfl (by rw [rows_length]; omega) (take_drop_rows l k h)

theorem ld_name {l : List ByteArray} {k : Nat} (h : k < l.length) : ld 9 (strs l) ((k : Int).toNat * 1) = some (.str l[k]) := by
  rw [Int.toNat_natCast, Nat.mul_one]
  exact ld_one rfl (by simp [strs, h])

theorem rows_ne {l : List Tree} {k : Nat} (h : k < l.length) : rows l ≠ [] := by
  intro e
  have := congrArg List.length e
  rw [rows_length] at this
  simp at this
  omega

theorem strs_ne {l : List ByteArray} {k : Nat} (h : k < l.length) : strs l ≠ [] := by
  intro e
  have := congrArg List.length e
  rw [strs_length] at this
  simp at this
  subst this
  simp at h

/-! ### loops -/

/-- What a frame is known to hold. -/
def Sub (fr : List (Nat × CV)) : List (Nat × CV) → Prop
  | [] => True
  | (t, c) :: r => look fr t = some c ∧ Sub fr r

theorem Sub.get {fr fr' : List (Nat × CV)} (h : Sub fr fr') {t : Nat} {c : CV} (hc : look fr' t = some c) : look fr t = some c := by
  induction fr' with
  | nil => simp [look] at hc
  | cons p r ih =>
    obtain ⟨t', c'⟩ := p
    obtain ⟨h1, h2⟩ := h
    rw [look_cons] at hc
    split at hc
    · rename_i e
      subst e
      cases hc
      exact h1
    · exact ih h2 hc

theorem Sim.mask {n : Nat} {ρ : Rho} {fr fr' : List (Nat × CV)} {loc : List (Nat × AObj)} {M : List AObj} {ds : List CV} {w : World} {a : Act}
    (hs : Sim n ρ { fr := fr, loc := loc, M := M, ds := ds } w a) (h : Sub fr fr') : Sim n ρ { fr := fr', loc := loc, M := M, ds := ds } w a := by
  refine ⟨⟨hs.rel.obj, hs.rel.inj, hs.rel.fb, hs.rel.fo, hs.rel.gl⟩, hs.size, fun t => ?_, hs.defs⟩
  show VS ρ { fr := fr, loc := loc, M := M, ds := ds } w ((look fr' t).getD .undef) _
  cases hc : look fr' t with
  | none => exact .undef _
  | some c =>
    have := hs.tmp t
    simp only [AS.tmp, h.get hc] at this
    exact this

theorem Evol.mask {ρ ρ' : Rho} {fr fr' : List (Nat × CV)} {loc : List (Nat × AObj)} {M : List AObj} {ds : List CV} {w w' : World} {s' : AS}
    (h : Evol ρ { fr := fr', loc := loc, M := M, ds := ds } w ρ' s' w') : Evol ρ { fr := fr, loc := loc, M := M, ds := ds } w ρ' s' w' :=
  ⟨h.F, h.os, h.tape, h.output, h.size, h.frame, h.own, h.names⟩

section
variable {P : Program} {n : Nat} {c : Code} {Q : APost} {fr fr' : List (Nat × CV)} {loc : List (Nat × AObj)} {M : List AObj} {ds : List CV}

theorem AWp.mask (h : Sub fr fr') (k : AWp P n c Q { fr := fr', loc := loc, M := M, ds := ds }) : AWp P n c Q { fr := fr, loc := loc, M := M, ds := ds } := by
  intro ρ w a hs
  exact wp_mono (k ρ w a (hs.mask h)) fun _ _ _ ⟨ae, s', ρ', h1, h2, h3, h4⟩ => ⟨ae, s', ρ', h1, h2, h3, h4.mask⟩

theorem AWpL.mask (h : Sub fr fr') (k : AWpL P n c Q { fr := fr', loc := loc, M := M, ds := ds }) : AWpL P n c Q { fr := fr, loc := loc, M := M, ds := ds } := by
  intro ρ w a hs b kk cs
  obtain ⟨e, a', w', ⟨ae, s', ρ', h1, h2, h3, h4⟩, harr⟩ := k ρ w a (hs.mask h) b kk cs
  exact ⟨e, a', w', ⟨ae, s', ρ', h1, h2, h3, h4.mask⟩, harr⟩

/-- A loop that counts up to N. -/
theorem AWpL.upto (I : Nat → AS → Prop) (N : Nat) (h : ∀ k s, k ≤ N → I k s → Hid (∀ s', k < N → I (k + 1) s' → AWpL P n c Q s') → AWp P n c (AThen (AWpL P n c Q) Q) s) :
    ∀ k s, k ≤ N → I k s → AWpL P n c Q s := by
  intro k s hk hI
  generalize hd : N - k = d
  induction d generalizing k s with
  | zero => exact AWpL.round (h k s hk hI fun s' hlt _ => by omega)
  | succ d ih => exact AWpL.round (h k s hk hI fun s' hlt hI' => ih (k + 1) s' (by omega) hI' (by omega))

/-- The ways through a region meet again. -/
theorem AWp.cutR {s : AS} {id : Nat} {l : List Oper} {y : Code} (I : AS → Prop) (h1 : AOps P n l.toArray (AThen I Q) l s) (h2 : ∀ s, I s → AWp P n y Q s) :
    AWp P n (.seq (.region id l.toArray false) y) Q s := by
  refine AWp.seq (AWp.mono (AWp.region h1) ?_)
  intro e s' h
  cases e with
  | normal => exact h2 s' h
  | exit i => exact h
  | ret => exact h
  | pan c => exact h

end

section
variable {n : Nat} {Q : APost} {o : Oper} {K : AS → Prop} {fr : List (Nat × CV)} {loc : List (Nat × AObj)} {M : List AObj} {ds : List CV} {d : Nat}

/-- An element's place. -/
theorem W.indexAddr {t z len : Nat} {x i : Operand} {row : List CV} {j : Int} (ho : o.op = .indexAddr t x i) (ht : tel t = some z)
    (hx : AS.ev { fr := fr, loc := loc, M := M, ds := ds } x = .islice row len) (hi : AS.ev { fr := fr, loc := loc, M := M, ds := ds } i = .int .i64 j) (hdst : o.dst = some d) (hd : Nat.blt d n = true)
    (h0 : 0 ≤ j) (h1 : j < (len : Int)) (hne : row ≠ []) (k : K { fr := (d, .iptr row (j.toNat * z)) :: fr, loc := loc, M := M, ds := ds }) :
    AOp Try.prog n o K Q { fr := fr, loc := loc, M := M, ds := ds } := by
  refine AOp.pure (c := .iptr row (j.toNat * z)) ?_ (by rw [hdst]; exact hd) (by rw [hdst]; exact k)
  rw [ho]
  simp only [pstep, ht, hx, hi]
  rw [if_pos ⟨h0, h1, hne⟩]

/-- What is read at a place in a row. -/
theorem W.loadRow {t off : Nat} {x : Operand} {row : List CV} {c : CV} (ho : o.op = .load t x) (hx : AS.ev { fr := fr, loc := loc, M := M, ds := ds } x = .iptr row off) (hdst : o.dst = some d)
    (hd : Nat.blt d n = true) (hl : ld t row off = some c) (k : K { fr := (d, c) :: fr, loc := loc, M := M, ds := ds }) : AOp Try.prog n o K Q { fr := fr, loc := loc, M := M, ds := ds } := by
  refine AOp.pure (c := c) ?_ (by rw [hdst]; exact hd) (by rw [hdst]; exact k)
  rw [ho]
  simp only [pstep, hx]
  exact hl

/-- A byte of a string. -/
theorem W.byte {x i : Operand} {b : ByteArray} {j : Int} (ho : o.op = .index 9 x i) (hx : AS.ev { fr := fr, loc := loc, M := M, ds := ds } x = .str b)
    (hi : AS.ev { fr := fr, loc := loc, M := M, ds := ds } i = .int .i64 j) (hdst : o.dst = some d) (hd : Nat.blt d n = true) (h0 : 0 ≤ j) (h1 : j < (b.size : Int))
    (k : K { fr := (d, .int .u8 ((b.data.toList.getD j.toNat 0).toNat : Int)) :: fr, loc := loc, M := M, ds := ds }) : AOp Try.prog n o K Q { fr := fr, loc := loc, M := M, ds := ds } := by
  refine AOp.pure (c := .int .u8 ((b.data.toList.getD j.toNat 0).toNat : Int)) ?_ (by rw [hdst]; exact hd) (by rw [hdst]; exact k)
  rw [ho]
  simp only [pstep, hx, hi]
  rw [if_pos ⟨h0, h1⟩]

end

section
variable {n : Nat} {Q : APost} {o : Oper} {K : AS → Prop} {fr : List (Nat × CV)} {loc : List (Nat × AObj)} {M : List AObj} {ds : List CV} {d : Nat}

/-- An element's place in an array of twelve strings. -/
theorem W.indexArr {x i : Operand} {nm : Nm} {ver off : Nat} {j : Int} (ho : o.op = .indexAddr 77 x i)
    (hx : AS.ev { fr := fr, loc := loc, M := M, ds := ds } x = .ptr nm ver off) (hi : AS.ev { fr := fr, loc := loc, M := M, ds := ds } i = .int .i64 j) (hdst : o.dst = some d) (hd : Nat.blt d n = true)
    (h0 : 0 ≤ j) (h1 : j < 12) (k : K { fr := (d, .ptr nm ver (off + j.toNat)) :: fr, loc := loc, M := M, ds := ds }) :
    AOp Try.prog n o K Q { fr := fr, loc := loc, M := M, ds := ds } := by
  intro ρ w a hs
  have hxv := hs.ev x
  rw [hx] at hxv
  have hiv := hs.ev i
  rw [hi] at hiv
  generalize hva : a.eval x = va at hxv
  cases hxv with
  | ptr _ _ _ hok =>
    have hadd : ∀ b o m, (⟨b, o, none⟩ : Addr).add m = ⟨b, o + m, none⟩ := by intro b o m; unfold Addr.add; split <;> simp_all
    unfold Oper.wp
    have hr : (execOp a.eval o).run Try.prog w = .ok (.value (.pointer (some ⟨(ρ nm ver).1, off + j.toNat, none⟩))) w := by
      simp [execOp, ho, hva, hiv.int_inv, Instr.indexAt, Instr.sureAddr, asIntOf, run_underlying Try.underlying77, h0, h1, size_of_info info9, hadd]
    rw [hr]
    refine ⟨_, ρ, k, ?_, (Evol.refl ρ _ w).put (some d) (.ptr nm ver (off + j.toNat))⟩
    rw [hdst]
    exact hs.put (d := some d) hd (.ptr nm ver _ hok)

/-- What is read of a variable of this frame's own. -/
theorem W.loadBox {t off : Nat} {x : Operand} {nm : Nm} {cs : List CV} {c : CV} (ho : o.op = .load t x) (hx : AS.ev { fr := fr, loc := loc, M := M, ds := ds } x = .ptr nm 0 off)
    (hg : AS.get { fr := fr, loc := loc, M := M, ds := ds } nm = some (.box cs)) (hdst : o.dst = some d)
    (hd : Nat.blt d n = true) (hl : ld t cs off = some c) (k : K { fr := (d, c) :: fr, loc := loc, M := M, ds := ds }) : AOp Try.prog n o K Q { fr := fr, loc := loc, M := M, ds := ds } := by
  refine AOp.pure (c := c) ?_ (by rw [hdst]; exact hd) (by rw [hdst]; exact k)
  rw [ho]
  simp only [pstep, hx, hg]
  exact hl

theorem W.build {t : TypeId} {ps : Array (Nat × Operand)} {cs cs' : List CV} (ho : o.op = .build t ps) (ht : isBuilt t = true) (hz : tzero t = some cs)
    (hfl : flats (parts { fr := fr, loc := loc, M := M, ds := ds } ps) = true) (hfill : fillC (bplace t) cs (parts { fr := fr, loc := loc, M := M, ds := ds } ps) = some cs')
    (hdst : o.dst = some d) (hd : Nat.blt d n = true) (k : K { fr := (d, .agg cs') :: fr, loc := loc, M := M, ds := ds }) : AOp Try.prog n o K Q { fr := fr, loc := loc, M := M, ds := ds } :=
  AOp.build ho ht hz hfl hfill (by rw [hdst]; exact hd) (by rw [hdst]; exact k)

theorem W.alloc {t : Nat} {cs : List CV} (ho : o.op = .alloc t) (hdst : o.dst = some d) (hz : tzero t = some cs) (hnew : look loc d = none) (hd : Nat.blt d n = true)
    (k : K { fr := (d, .ptr (.l d) 0 0) :: fr, loc := (d, .box cs) :: loc, M := M, ds := ds }) : AOp Try.prog n o K Q { fr := fr, loc := loc, M := M, ds := ds } :=
  AOp.allocL ho hdst hz hnew hd k

theorem W.storeL {t : TypeId} {p x : Operand} {l : Nat} {off k : Nat} {b : Bool} {cs ys cs' : List CV} (ho : o.op = .store t p x) (hdst : o.dst = none)
    (hp : AS.ev { fr := fr, loc := loc, M := M, ds := ds } p = .ptr (.l l) 0 off) (hg : look loc l = some (.box cs)) (htk : tk t = some (b, k))
    (hys : (AS.ev { fr := fr, loc := loc, M := M, ds := ds } x).cells = ys) (hf : flat (AS.ev { fr := fr, loc := loc, M := M, ds := ds } x) = true) (hk : ys.length = k) (hset : setK cs off ys = some cs')
    (kk : K { fr := fr, loc := (l, .box cs') :: loc, M := M, ds := ds }) : AOp Try.prog n o K Q { fr := fr, loc := loc, M := M, ds := ds } :=
  AOp.store ho hdst hp hg htk hys hf hk hset rfl kk

theorem W.buildSlice {t e sz by' len : Nat} {ps : Array (Nat × Operand)} {zc cs' : List CV} (ho : o.op = .buildSlice t len ps) (hdst : o.dst = some d) (ht : tapp t = some (e, sz, by')) (hz : tzero e = some zc)
    (hfl : flats (parts { fr := fr, loc := loc, M := M, ds := ds } ps) = true) (hlen : Nat.ble (len * sz) 16777216 = true)
    (hfill : fillC (fun i => some (i * sz, sz)) (zrow zc len) (parts { fr := fr, loc := loc, M := M, ds := ds } ps) = some cs') (hn : pures cs' = true)
    (hd : Nat.blt d n = true) (k : K { fr := (d, .islice cs' len) :: fr, loc := loc, M := M, ds := ds }) : AOp Try.prog n o K Q { fr := fr, loc := loc, M := M, ds := ds } :=
  AOp.buildSliceI ho ht hz hfl hlen hfill hn (by rw [hdst]; exact hd) (by rw [hdst]; exact k)

end

/-- A string's byte. -/
def byteI (b : ByteArray) (i : Nat) : Int := ((b.data.toList.getD i 0).toNat : Int)

theorem W.byteN {n : Nat} {Q : APost} {o : Oper} {K : AS → Prop} {fr : List (Nat × CV)} {loc : List (Nat × AObj)} {M : List AObj} {ds : List CV} {d : Nat}
    {x i : Operand} {b : ByteArray} {j : Nat} (ho : o.op = .index 9 x i) (hx : AS.ev { fr := fr, loc := loc, M := M, ds := ds } x = .str b)
    (hi : AS.ev { fr := fr, loc := loc, M := M, ds := ds } i = .int .i64 (j : Int)) (hdst : o.dst = some d) (hd : Nat.blt d n = true) (h1 : j < b.size)
    (k : K { fr := (d, .int .u8 (byteI b j)) :: fr, loc := loc, M := M, ds := ds }) : AOp Try.prog n o K Q { fr := fr, loc := loc, M := M, ds := ds } :=
  W.byte ho hx hi hdst hd (by omega) (by omega) (by rw [Int.toNat_natCast]; exact k)

theorem subBool {x y : Bool} (h : y = x) : some (CV.bool y) = some (CV.bool x) := by rw [h]
theorem subInt {k : IntKind} {x y : Int} (h : y = x) : some (CV.int k y) = some (CV.int k x) := by rw [h]

theorem wrapSub {k : Int} (h0 : 0 < k) (h1 : k < 4611686018427387904) : IntKind.i64.wrap (k - 1) = k - 1 := by rw [IntKind.wrap_i64]; omega
theorem wrapAdd {k : Int} (h0 : 0 ≤ k) (h1 : k < 4611686018427387904) : IntKind.i64.wrap (k + 1) = k + 1 := by rw [IntKind.wrap_i64]; omega

end Go.Proofs.Ytceocfancfjdjaa
