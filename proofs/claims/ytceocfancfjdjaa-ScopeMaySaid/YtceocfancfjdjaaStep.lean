/- The operations that only reckon or read: what each gives, and that the model gives it. No condition. -/
import Derived.Test.YtceocfancfjdjaaTab
import Derived.Laws.Strings
namespace Go.Proofs.Ytceocfancfjdjaa
open Go Go.RowKit

def takeK : List CV → Nat → Option (List CV)
  | _, 0 => some []
  | [], _ + 1 => none
  | c :: r, n + 1 => match takeK r n with
    | some l => some (c :: l)
    | none => none

def dropK : List CV → Nat → Option (List CV)
  | r, 0 => some r
  | [], _ + 1 => none
  | _ :: r, n + 1 => dropK r n

theorem takeK_spec : ∀ (r : List CV) (n : Nat) (l : List CV), takeK r n = some l → l = r.take n ∧ n ≤ r.length
  | r, 0, l, h => by simp [takeK] at h; simp [h]
  | [], n + 1, l, h => by simp [takeK] at h
  | c :: r, n + 1, l, h => by
    simp only [takeK] at h
    cases h' : takeK r n with
    | none => simp [h'] at h
    | some l' =>
      have := takeK_spec r n l' h'
      simp [h'] at h
      subst h
      simp [this.1, this.2]

theorem dropK_spec : ∀ (r : List CV) (n : Nat) (l : List CV), dropK r n = some l → l = r.drop n ∧ n ≤ r.length
  | r, 0, l, h => by simp [dropK] at h; simp [h]
  | [], n + 1, l, h => by simp [dropK] at h
  | c :: r, n + 1, l, h => by
    have := dropK_spec r n l (by simpa [dropK] using h)
    simp [this.1, this.2]

theorem takeK_of {r : List CV} {n : Nat} (h : n ≤ r.length) : takeK r n = some (r.take n) := by
  induction r generalizing n with
  | nil => simp at h; subst h; rfl
  | cons c r ih =>
    cases n with
    | zero => rfl
    | succ n => simp [takeK, ih (n := n) (by simpa using h)]

theorem dropK_of {r : List CV} {n : Nat} (h : n ≤ r.length) : dropK r n = some (r.drop n) := by
  induction r generalizing n with
  | nil => simp at h; subst h; rfl
  | cons c r ih =>
    cases n with
    | zero => rfl
    | succ n => simp [dropK, ih (n := n) (by simpa using h)]

/-- What is read of a row. -/
def ld (t : TypeId) (row : List CV) (off : Nat) : Option CV :=
  match tk t, dropK row off with
  | some (false, _), some (c :: _) => some c
  | some (true, k), some r => match takeK r k with
    | some l => some (.agg l)
    | none => none
  | _, _ => none

def keq : IntKind → IntKind → Bool
  | .i64, .i64 => true
  | .u8, .u8 => true
  | _, _ => false

theorem keq_eq {a b : IntKind} (h : keq a b = true) : a = b := by cases a <;> cases b <;> simp_all [keq]

def intOp (op : BinOp) (k : IntKind) (a b : Int) : Option CV :=
  match op with
  | .eql => some (.bool (a == b))
  | .neq => some (.bool (a != b))
  | .lss => some (.bool (a < b))
  | .leq => some (.bool (a ≤ b))
  | .gtr => some (.bool (a > b))
  | .geq => some (.bool (a ≥ b))
  | .add => some (.int k (k.wrap (a + b)))
  | .sub => some (.int k (k.wrap (a - b)))
  | _ => none

/-- Are two strings one. -/
def seq (a b : ByteArray) : Bool := a.data.toList == b.data.toList

theorem seq_toList (a b : ByteArray) : (a.toList == b.toList) = seq a b := by rw [ByteArray.toList_eq, ByteArray.toList_eq]; rfl

theorem seq_iff {a b : ByteArray} : seq a b = true ↔ a = b := by
  unfold seq
  rw [beq_iff_eq]
  constructor
  · intro h
    obtain ⟨x⟩ := a
    obtain ⟨y⟩ := b
    have : x = y := Array.toList_inj.1 h
    rw [this]
  · intro h; rw [h]

def strOp (op : BinOp) (a b : ByteArray) : Option CV :=
  match op with
  | .eql => some (.bool (seq a b))
  | .neq => some (.bool !(seq a b))
  | .add => if a.size + b.size ≤ 4611686018427387904 then some (.str (a ++ b)) else none
  | _ => none

/-- The kinds of types whose length is asked for. -/
inductive LK where
  | str
  | sl
  | mp
  | no

def tlen : TypeId → LK
  | 9 => .str
  | 22 => .sl
  | 23 => .sl
  | 30 => .sl
  | 48 => .mp
  | _ => .no

def lenOf (s : AS) (t : TypeId) (c : CV) : Option CV :=
  match tlen t with
  | .str => match c with
    | .str b => some (.int .i64 b.size)
    | _ => none
  | .sl => match c with
    | .islice _ n => some (.int .i64 n)
    | .mslice _ _ n => some (.int .i64 n)
    | .nilslice => some (.int .i64 0)
    | _ => none
  | .mp => match c with
    | .nilmap => some (.int .i64 0)
    | .map o => match s.get o with
      | some (.map es) => some (.int .i64 es.length)
      | _ => none
    | _ => none
  | .no => none

theorem tlen_str {t : TypeId} (h : tlen t = .str) : Try.prog.underlying t = some .string := by
  unfold tlen at h
  split at h <;> cases h
  exact Try.underlying9
theorem tlen_sl {t : TypeId} (h : tlen t = .sl) : ∃ e, Try.prog.underlying t = some (.slice e) := by
  unfold tlen at h
  split at h <;> cases h
  · exact ⟨_, Try.underlying22⟩
  · exact ⟨_, Try.underlying23⟩
  · exact ⟨_, Try.underlying30⟩
theorem tlen_mp {t : TypeId} (h : tlen t = .mp) : ∃ k e, Try.prog.underlying t = some (.map k e) := by
  unfold tlen at h
  split at h <;> cases h
  exact ⟨_, _, Try.underlying48⟩

def callStep (s : AS) (c : Call) : Option CV :=
  match c.callee, c.args.toList, c.argTypes.toList with
  | .builtin .len, [x], [t] => lenOf s t (s.ev x)
  | _, _, _ => none

def capStep (s : AS) (f : FuncId) (first captured : List Operand) : Option CV :=
  match first with
  | [] => some (.func f (captured.map s.ev))
  | _ => none

def pstep (s : AS) : Op → Option CV
  | .move x => some (s.ev x)
  | .assign x => some (s.ev x)
  | .pick c a b => match s.ev c with
    | .bool true => some (s.ev a)
    | .bool false => some (s.ev b)
    | _ => none
  | .load t x => match s.ev x with
    | .iptr row off => ld t row off
    | .ptr o 0 off => match s.get o with
      | some (.box cs) => ld t cs off
      | _ => none
    | _ => none
  | .binOp op _ x y _ => match s.ev x, s.ev y with
    | .int k a, .int k' b => bif keq k k' then intOp op k a b else none
    | .str a, .str b => strOp op a b
    | _, _ => none
  | .unOp .not _ x => match s.ev x with
    | .bool b => some (.bool !b)
    | _ => none
  | .fieldAddr t x k => match toff t k, s.ev x with
    | some f, .iptr row off => some (.iptr row (off + f))
    | some f, .ptr o ver off => some (.ptr o ver (off + f))
    | _, _ => none
  | .indexAddr t x i => match tel t, s.ev x, s.ev i with
    | some z, .islice row len, .int .i64 j => if 0 ≤ j ∧ j < (len : Int) ∧ row ≠ [] then some (.iptr row (j.toNat * z)) else none
    | some z, .mslice o ver len, .int .i64 j => if 0 ≤ j ∧ j < (len : Int) then some (.ptr o ver (j.toNat * z)) else none
    | _, _, _ => none
  | .index 9 x i => match s.ev x, s.ev i with
    | .str b, .int .i64 j => if 0 ≤ j ∧ j < (b.size : Int) then some (.int .u8 ((b.data.toList.getD j.toNat 0).toNat : Int)) else none
    | _, _ => none
  | .extract x i => match s.ev x with
    | .tuple cs => match dropK cs i with
      | some (c :: _) => some c
      | _ => none
    | _ => none
  | .nilCheck x => match s.ev x with
    | .ptr o ver off => some (.ptr o ver off)
    | .iptr row off => some (.iptr row off)
    | _ => none
  | .call c => callStep s c
  | .makeFunc (.func f) first captured => capStep s f first.toList captured.toList
  | .makeInterface 44 x => some (.iface 44 (s.ev x))
  | _ => none

theorem run_loadRow {w : World} {b o : Nat} {cur : Array Value} {ty : TypeId} {fz : Nat × Nat} (hb : w.heap[b]? = some (.cells cur ty fz))
    {t : TypeId} {c : CV} {row : List CV} {off : Nat} {R : CV → Value → Prop} (hl : ld t row off = some c)
    (hV : ∀ (j : Nat) (c : CV) (v : Value), row[j]? = some c → cur[o + j]? = some v → R c v) (hs : o + row.length ≤ cur.size)
    (hagg : ∀ cs vs, cs.length = vs.size → (∀ (j : Nat) (c : CV) (v : Value), cs[j]? = some c → vs[j]? = some v → R c v) → R (.agg cs) (.agg vs)) :
    ∃ v, (loadVar t ⟨b, o + off, none⟩).run Try.prog w = .ok v w ∧ R c v := by
  unfold ld at hl
  split at hl
  · rename_i k c0 r htk hd
    cases hl
    have hsp := dropK_spec _ _ _ hd
    have hr : row[off]? = some c := by
      have := congrArg (·[0]?) hsp.1
      simpa using this.symm
    have hlt : off < row.length := (List.getElem?_eq_some_iff.1 hr).1
    have hlt2 : o + off < cur.size := by omega
    have hcell : w.cell? ⟨b, o + off, none⟩ = some cur[o + off] := by simp [World.cell?, hb, hlt2]
    exact ⟨cur[o + off], by simp [loadVar, tk_agg htk, hcell], hV off c _ hr (by simp [hlt2])⟩
  · rename_i k r htk hd
    split at hl
    · rename_i l ht
      cases hl
      have hsp := dropK_spec _ _ _ hd
      have hsp2 := takeK_spec _ _ _ ht
      have hk : off + k ≤ row.length := by have h1 := hsp2.2; rw [hsp.1] at h1; simp at h1; omega
      have hlist : l = (row.drop off).take k := by rw [hsp2.1, hsp.1]
      have hll : l.length = k := by rw [hlist]; simp; omega
      have hadd : ∀ j, (⟨b, o + off, none⟩ : Addr).add j = ⟨b, o + off + j, none⟩ := by intro j; unfold Addr.add; split <;> simp_all
      have hrun := run_loadCells (P := Try.prog) (w := w) ⟨b, o + off, none⟩ k (fun j => (cur[o + off + j]?).getD undef) (by
        intro j hj
        have hlt : o + off + j < cur.size := by omega
        simp [hadd, World.cell?, hb, hlt])
      refine ⟨_, by simp [loadVar, tk_agg htk, tk_size htk, hrun]; rfl, hagg _ _ (by simp [hll]) ?_⟩
      intro j c v hc hv
      have hj : j < k := by have := (List.getElem?_eq_some_iff.1 hc).1; omega
      have hlt : o + off + j < cur.size := by omega
      have hc' : row[off + j]? = some c := by
        rw [hlist] at hc
        simpa [List.getElem?_take, hj, List.getElem?_drop] using hc
      refine hV (off + j) c v hc' ?_
      rw [← Nat.add_assoc]
      simp [hj] at hv
      simp [hlt] at hv ⊢
      exact hv
    · cases hl
  · cases hl

end Go.Proofs.Ytceocfancfjdjaa
