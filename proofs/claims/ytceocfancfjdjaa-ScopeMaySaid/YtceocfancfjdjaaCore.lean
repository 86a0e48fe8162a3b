/- A small abstract machine over plain values: what an operation of the model does to a world is told by what it does to a list of values; its soundness. No condition. -/
import Derived.Test.YtceocfancfjdjaaProg
import Derived.KernelRfl
import Derived.Tactics
import Derived.Below
import Derived.Laws.AppendOwn
import Derived.Orders
namespace Go.Proofs.Ytceocfancfjdjaa
open Go Go.RowKit

/-! ### values -/

/-- A name of a block that the run itself has made: by the slot of its maker (of one frame alone), or by its place in the list. -/
inductive Nm where
  | l (t : Nat)
  | g (i : Nat)
deriving DecidableEq

inductive CV where
  | int (k : IntKind) (n : Int)
  | bool (b : Bool)
  | str (s : ByteArray)
  | undef
  | ptr (o : Nm) (ver off : Nat)
  | iptr (row : List CV) (off : Nat)
  | nilslice
  | islice (row : List CV) (len : Nat)
  | mslice (o : Nm) (ver len : Nat)
  | map (o : Nm)
  | nilmap
  | func (f : FuncId) (cap : List CV)
  | nilIface
  | iface (t : TypeId) (v : CV)
  | agg (cs : List CV)
  | tuple (cs : List CV)

def CV.cells : CV → List CV
  | .agg cs => cs
  | c => [c]

def CV.one : CV → Bool
  | .agg _ | .tuple _ | .undef => false
  | _ => true

mutual
/-- It speaks of no name of one frame alone. -/
def noL : CV → Bool
  | .ptr (.l _) _ _ => false
  | .mslice (.l _) _ _ => false
  | .map (.l _) => false
  | .agg cs => noLs cs
  | .tuple cs => noLs cs
  | .func _ cs => noLs cs
  | .iface _ c => noL c
  | _ => true
def noLs : List CV → Bool
  | [] => true
  | c :: r => noL c && noLs r
end

mutual
/-- It speaks of no name at all. -/
def pureC : CV → Bool
  | .ptr _ _ _ => false
  | .mslice _ _ _ => false
  | .map _ => false
  | .agg cs => pures cs
  | .tuple cs => pures cs
  | .func _ cs => pures cs
  | .iface _ c => pureC c
  | _ => true
def pures : List CV → Bool
  | [] => true
  | c :: r => pureC c && pures r
end

theorem pures_get {cs : List CV} (h : pures cs = true) {j : Nat} {c : CV} (hj : cs[j]? = some c) : pureC c = true := by
  induction cs generalizing j with
  | nil => simp at hj
  | cons d r ih =>
    simp only [pures, Bool.and_eq_true] at h
    cases j with
    | zero => simp at hj; subst hj; exact h.1
    | succ j => exact ih h.2 (by simpa using hj)

theorem pures_append {a b : List CV} : pures (a ++ b) = (pures a && pures b) := by
  induction a with
  | nil => simp [pures]
  | cons c r ih => simp [pures, ih, Bool.and_assoc]

mutual
theorem pureC_noL : ∀ (c : CV), pureC c = true → noL c = true
  | .ptr _ _ _, h => by simp [pureC] at h
  | .mslice _ _ _, h => by simp [pureC] at h
  | .map _, h => by simp [pureC] at h
  | .agg cs, h => by simp only [noL]; exact pures_noL cs (by simpa [pureC] using h)
  | .tuple cs, h => by simp only [noL]; exact pures_noL cs (by simpa [pureC] using h)
  | .func _ cs, h => by simp only [noL]; exact pures_noL cs (by simpa [pureC] using h)
  | .iface _ c, h => by simp only [noL]; exact pureC_noL c (by simpa [pureC] using h)
  | .int _ _, _ => rfl
  | .bool _, _ => rfl
  | .str _, _ => rfl
  | .undef, _ => rfl
  | .iptr _ _, _ => rfl
  | .nilslice, _ => rfl
  | .islice _ _, _ => rfl
  | .nilmap, _ => rfl
  | .nilIface, _ => rfl
theorem pures_noL : ∀ (cs : List CV), pures cs = true → noLs cs = true
  | [], _ => rfl
  | c :: r, h => by
    simp only [pures, Bool.and_eq_true] at h
    simp only [noLs, Bool.and_eq_true]
    exact ⟨pureC_noL c h.1, pures_noL r h.2⟩
end

theorem noLs_get {cs : List CV} (h : noLs cs = true) {j : Nat} {c : CV} (hj : cs[j]? = some c) : noL c = true := by
  induction cs generalizing j with
  | nil => simp at hj
  | cons d r ih =>
    simp only [noLs, Bool.and_eq_true] at h
    cases j with
    | zero => simp at hj; subst hj; exact h.1
    | succ j => exact ih h.2 (by simpa using hj)

theorem noLs_append {a b : List CV} : noLs (a ++ b) = (noLs a && noLs b) := by
  induction a with
  | nil => simp [noLs]
  | cons c r ih => simp [noLs, ih, Bool.and_assoc]

inductive AObj where
  | box (cs : List CV)
  | arr (ver : Nat) (e : TypeId) (sz : Nat) (cs : List CV)
  | map (es : List (ByteArray × Int))

def AObj.ver : AObj → Nat
  | .arr v _ _ _ => v
  | _ => 0

/-- Nothing in it speaks of a name of one frame alone. -/
def AObj.noL : AObj → Bool
  | .box cs => noLs cs
  | .arr _ _ _ cs => noLs cs
  | .map _ => true

structure AS where
  fr : List (Nat × CV)
  loc : List (Nat × AObj)
  M : List AObj
  ds : List CV

def look {α : Type} : List (Nat × α) → Nat → Option α
  | [], _ => none
  | (k, v) :: r, t => bif Nat.beq k t then some v else look r t

def AS.tmp (s : AS) (t : Nat) : CV := (look s.fr t).getD .undef

def AS.get (s : AS) : Nm → Option AObj
  | .l t => look s.loc t
  | .g i => s.M[i]?

def AS.upd (s : AS) : Nm → AObj → AS
  | .l t, x => { s with loc := (t, x) :: s.loc }
  | .g i, x => { s with M := s.M.set i x }

def AS.put (s : AS) (dst : Option Tmp) (c : CV) : AS :=
  match dst with
  | some d => { s with fr := (d, c) :: s.fr }
  | none => s

theorem look_cons {α : Type} (k t : Nat) (v : α) (r : List (Nat × α)) : look ((k, v) :: r) t = if k = t then some v else look r t := by
  simp only [look, cond_eq_ite, Nat.beq_eq]

/-- Where the named blocks lie; and which blocks are somebody else's own. -/
structure Rho where
  f : Nm → Nat → Nat × Nat
  F : Nat → Prop

instance : CoeFun Rho (fun _ => Nm → Nat → Nat × Nat) := ⟨Rho.f⟩

/-- Which blocks are the run's own. -/
def Own (ρ : Rho) (s : AS) (b : Nat) : Prop := ∃ o x, s.get o = some x ∧ (ρ o x.ver).1 = b

/-- The run's own, and somebody else's. -/
def OwnF (ρ : Rho) (s : AS) (b : Nat) : Prop := Own ρ s b ∨ ρ.F b

/-- Which names may be spoken of. -/
def Ok (s : AS) (o : Nm) (k : Nat) : Prop := ∃ x, s.get o = some x ∧ k ≤ x.ver

/-- A value of the abstract machine and one of the model's. -/
inductive V (ρ : Rho) (w : World) (O : Nat → Prop) (N : Nm → Nat → Prop) : CV → Value → Prop
  | int (k : IntKind) (n : Int) : V ρ w O N (.int k n) (.int k n)
  | bool (b : Bool) : V ρ w O N (.bool b) (.bool b)
  | str (s : ByteArray) : V ρ w O N (.str s) (.string s)
  | undef (v : Value) : V ρ w O N .undef v
  | ptr (o : Nm) (ver off : Nat) : N o ver → V ρ w O N (.ptr o ver off) (.pointer (some ⟨(ρ o ver).1, off, none⟩))
  | iptr (row : List CV) (off : Nat) (b off0 : Nat) (cur : Array Value) (ty : TypeId) (fz : Nat × Nat) :
      w.heap[b]? = some (.cells cur ty fz) → ¬ O b → pures row = true → off0 + row.length ≤ cur.size →
      (∀ (j : Nat) (c : CV) (v : Value), row[j]? = some c → cur[off0 + j]? = some v → V ρ w O N c v) →
      V ρ w O N (.iptr row off) (.pointer (some ⟨b, off0 + off, none⟩))
  | nilslice : V ρ w O N .nilslice (.slice none 0 0)
  | islice0 (a : Option Addr) (cap : Nat) : V ρ w O N (.islice [] 0) (.slice a 0 cap)
  | islice (row : List CV) (len : Nat) (b off0 cap : Nat) (cur : Array Value) (ty : TypeId) (fz : Nat × Nat) :
      w.heap[b]? = some (.cells cur ty fz) → ¬ O b → pures row = true → off0 + row.length ≤ cur.size → len ≤ cap → cap ≤ maxLen →
      (∀ (j : Nat) (c : CV) (v : Value), row[j]? = some c → cur[off0 + j]? = some v → V ρ w O N c v) →
      V ρ w O N (.islice row len) (.slice (some ⟨b, off0, none⟩) len cap)
  | mslice (o : Nm) (ver len : Nat) : N o ver → V ρ w O N (.mslice o ver len) (.slice (some ⟨(ρ o ver).1, 0, none⟩) len (ρ o ver).2)
  | map (o : Nm) : N o 0 → V ρ w O N (.map o) (.map (some (ρ o 0).1))
  | nilmap : V ρ w O N .nilmap (.map none)
  | func (f : FuncId) (cs : List CV) (vs : Array Value) : cs.length = vs.size →
      (∀ (j : Nat) (c : CV) (v : Value), cs[j]? = some c → vs[j]? = some v → V ρ w O N c v) → V ρ w O N (.func f cs) (.func (.func f) #[] vs)
  | nilIface : V ρ w O N .nilIface .nilIface
  | iface (t : TypeId) (c : CV) (v : Value) : V ρ w O N c v → V ρ w O N (.iface t c) (.iface t v)
  | agg (cs : List CV) (vs : Array Value) : cs.length = vs.size →
      (∀ (j : Nat) (c : CV) (v : Value), cs[j]? = some c → vs[j]? = some v → V ρ w O N c v) → V ρ w O N (.agg cs) (.agg vs)
  | tuple (cs : List CV) (vs : Array Value) : cs.length = vs.size →
      (∀ (j : Nat) (c : CV) (v : Value), cs[j]? = some c → vs[j]? = some v → V ρ w O N c v) → V ρ w O N (.tuple cs) (.tuple vs)

theorem V.mono {ρ ρ' : Rho} {w w' : World} {O O' : Nat → Prop} {N N' : Nm → Nat → Prop} {c : CV} {v : Value} (h : V ρ w O N c v)
    (hρ : ∀ o k, N o k → N' o k ∧ ρ' o k = ρ o k)
    (hw : ∀ b, b < w.heap.size → ¬ O b → w'.heap[b]? = w.heap[b]? ∧ ¬ O' b) : V ρ' w' O' N' c v := by
  induction h with
  | int k n => exact .int k n
  | bool b => exact .bool b
  | str s => exact .str s
  | undef v => exact .undef v
  | ptr o ver off hN => have := hρ o ver hN; rw [← this.2]; exact .ptr o ver off this.1
  | iptr row off b off0 cur ty fz hb hO hn hs hV ih =>
    have hlt : b < w.heap.size := (Array.getElem?_eq_some_iff.1 hb).1
    exact .iptr row off b off0 cur ty fz ((hw b hlt hO).1.trans hb) (hw b hlt hO).2 hn hs ih
  | nilslice => exact .nilslice
  | islice0 a cap => exact .islice0 a cap
  | islice row len b off0 cap cur ty fz hb hO hn hs hl hc hV ih =>
    have hlt : b < w.heap.size := (Array.getElem?_eq_some_iff.1 hb).1
    exact .islice row len b off0 cap cur ty fz ((hw b hlt hO).1.trans hb) (hw b hlt hO).2 hn hs hl hc ih
  | mslice o ver len hN => have := hρ o ver hN; rw [← this.2]; exact .mslice o ver len this.1
  | map o hN => have := hρ o 0 hN; rw [← this.2]; exact .map o this.1
  | nilmap => exact .nilmap
  | func f cs vs hl hV ih => exact .func f cs vs hl ih
  | nilIface => exact .nilIface
  | iface t c v _ ih => exact .iface t c v ih
  | agg cs vs hl hV ih => exact .agg cs vs hl ih
  | tuple cs vs hl hV ih => exact .tuple cs vs hl ih

/-- What speaks of no name of the frame's lives on without the frame. -/
theorem V.drop {ρ ρ' : Rho} {w w' : World} {O O' : Nat → Prop} {N N' : Nm → Nat → Prop} {c : CV} {v : Value} (h : V ρ w O N c v)
    (hn : noL c = true) (hρ : ∀ i k, N (.g i) k → N' (.g i) k ∧ ρ' (.g i) k = ρ (.g i) k)
    (hw : ∀ b, b < w.heap.size → ¬ O b → w'.heap[b]? = w.heap[b]? ∧ ¬ O' b) : V ρ' w' O' N' c v := by
  induction h with
  | int k n => exact .int k n
  | bool b => exact .bool b
  | str s => exact .str s
  | undef v => exact .undef v
  | ptr o ver off hN =>
    cases o with
    | l t => simp [noL] at hn
    | g i => have := hρ i ver hN; rw [← this.2]; exact .ptr _ ver off this.1
  | iptr row off b off0 cur ty fz hb hO hr hs hV ih =>
    have hlt : b < w.heap.size := (Array.getElem?_eq_some_iff.1 hb).1
    exact .iptr row off b off0 cur ty fz ((hw b hlt hO).1.trans hb) (hw b hlt hO).2 hr hs (fun j c v hc hv => ih j c v hc hv (pureC_noL c (pures_get hr hc)))
  | nilslice => exact .nilslice
  | islice0 a cap => exact .islice0 a cap
  | islice row len b off0 cap cur ty fz hb hO hr hs hl hc hV ih =>
    have hlt : b < w.heap.size := (Array.getElem?_eq_some_iff.1 hb).1
    exact .islice row len b off0 cap cur ty fz ((hw b hlt hO).1.trans hb) (hw b hlt hO).2 hr hs hl hc (fun j c v hc hv => ih j c v hc hv (pureC_noL c (pures_get hr hc)))
  | mslice o ver len hN =>
    cases o with
    | l t => simp [noL] at hn
    | g i => have := hρ i ver hN; rw [← this.2]; exact .mslice _ ver len this.1
  | map o hN =>
    cases o with
    | l t => simp [noL] at hn
    | g i => have := hρ i 0 hN; rw [← this.2]; exact .map _ this.1
  | nilmap => exact .nilmap
  | func f cs vs hl hV ih => exact .func f cs vs hl (fun j c v hc hv => ih j c v hc hv (noLs_get (by simpa [noL] using hn) hc))
  | nilIface => exact .nilIface
  | iface t c v _ ih => exact .iface t c v (ih (by simpa [noL] using hn))
  | agg cs vs hl hV ih => exact .agg cs vs hl (fun j c v hc hv => ih j c v hc hv (noLs_get (by simpa [noL] using hn) hc))
  | tuple cs vs hl hV ih => exact .tuple cs vs hl (fun j c v hc hv => ih j c v hc hv (noLs_get (by simpa [noL] using hn) hc))

/-- What speaks of no name lives on, whatever names there are. -/
theorem V.pure {ρ ρ' : Rho} {w w' : World} {O O' : Nat → Prop} {N N' : Nm → Nat → Prop} {c : CV} {v : Value} (h : V ρ w O N c v)
    (hn : pureC c = true) (hw : ∀ b, b < w.heap.size → ¬ O b → w'.heap[b]? = w.heap[b]? ∧ ¬ O' b) : V ρ' w' O' N' c v := by
  induction h with
  | int k n => exact .int k n
  | bool b => exact .bool b
  | str s => exact .str s
  | undef v => exact .undef v
  | ptr o ver off hN => simp [pureC] at hn
  | iptr row off b off0 cur ty fz hb hO hr hs hV ih =>
    have hlt : b < w.heap.size := (Array.getElem?_eq_some_iff.1 hb).1
    exact .iptr row off b off0 cur ty fz ((hw b hlt hO).1.trans hb) (hw b hlt hO).2 hr hs (fun j c v hc hv => ih j c v hc hv (pures_get hr hc))
  | nilslice => exact .nilslice
  | islice0 a cap => exact .islice0 a cap
  | islice row len b off0 cap cur ty fz hb hO hr hs hl hc hV ih =>
    have hlt : b < w.heap.size := (Array.getElem?_eq_some_iff.1 hb).1
    exact .islice row len b off0 cap cur ty fz ((hw b hlt hO).1.trans hb) (hw b hlt hO).2 hr hs hl hc (fun j c v hc hv => ih j c v hc hv (pures_get hr hc))
  | mslice o ver len hN => simp [pureC] at hn
  | map o hN => simp [pureC] at hn
  | nilmap => exact .nilmap
  | func f cs vs hl hV ih => exact .func f cs vs hl (fun j c v hc hv => ih j c v hc hv (pures_get (by simpa [pureC] using hn) hc))
  | nilIface => exact .nilIface
  | iface t c v _ ih => exact .iface t c v (ih (by simpa [pureC] using hn))
  | agg cs vs hl hV ih => exact .agg cs vs hl (fun j c v hc hv => ih j c v hc hv (pures_get (by simpa [pureC] using hn) hc))
  | tuple cs vs hl hV ih => exact .tuple cs vs hl (fun j c v hc hv => ih j c v hc hv (pures_get (by simpa [pureC] using hn) hc))

abbrev VS (ρ : Rho) (s : AS) (w : World) : CV → Value → Prop := V ρ w (OwnF ρ s) (Ok s)

/-- Lists of values, place by place. -/
def VL (R : CV → Value → Prop) (cs : List CV) (vs : List Value) : Prop :=
  cs.length = vs.length ∧ ∀ (j : Nat) (c : CV) (v : Value), cs[j]? = some c → vs[j]? = some v → R c v

/-- A block of the run's own. -/
def RObj (ρ : Rho) (s : AS) (w : World) (o : Nm) : AObj → Prop
  | .box cs => ∃ (cur : Array Value) (e : TypeId), w.heap[(ρ o 0).1]? = some (.cells cur e (0, 0)) ∧ VL (VS ρ s w) cs cur.toList
  | .arr ver e sz cs => ∃ cur : Array Value, w.heap[(ρ o ver).1]? = some (.cells cur e (0, 0)) ∧ cs.length ≤ cur.size ∧ VL (VS ρ s w) cs (cur.toList.take cs.length) ∧
      cur.size = (ρ o ver).2 * sz ∧ (ρ o ver).2 ≤ maxLen
  | .map es => ∃ (mes : Array MapEntry) (clock : Nat), w.heap[(ρ o 0).1]? = some (.map mes clock) ∧ es.length = mes.size ∧
      ∀ (j : Nat) (k : ByteArray) (x : Int) (e : MapEntry), es[j]? = some (k, x) → mes[j]? = some e → e.key = .string k ∧ e.val = .int .i64 x

structure Rel (ρ : Rho) (s : AS) (w : World) : Prop where
  obj : ∀ o x, s.get o = some x → RObj ρ s w o x
  inj : ∀ o o' x x', s.get o = some x → s.get o' = some x' → (ρ o x.ver).1 = (ρ o' x'.ver).1 → o = o'
  fb : ∀ b, ρ.F b → b < w.heap.size
  fo : ∀ b, ρ.F b → ¬ Own ρ s b
  gl : ∀ i x, s.get (.g i) = some x → x.noL = true

def RDef (R : CV → Value → Prop) (cs : List CV) (ds : List Deferred) : Prop :=
  cs.length = ds.length ∧ ∀ (j : Nat) (c : CV) (d : Deferred), cs[j]? = some c → ds[j]? = some d → ∃ (f : FuncId) (cap : List CV) (vs : Array Value), c = .func f cap ∧ d = { target := .fn (.func f) vs, args := #[] } ∧ VL R cap vs.toList

structure Sim (n : Nat) (ρ : Rho) (s : AS) (w : World) (a : Act) : Prop where
  rel : Rel ρ s w
  size : a.tmps.size = n
  tmp : ∀ t, VS ρ s w (s.tmp t) (a.tmps.getD t undef)
  defs : RDef (VS ρ s w) s.ds a.defers

/-- What has turned between two worlds. -/
structure Evol (ρ : Rho) (s : AS) (w : World) (ρ' : Rho) (s' : AS) (w' : World) : Prop where
  F : ρ'.F = ρ.F
  os : w'.os = w.os
  tape : w'.tape = w.tape
  output : w'.output = w.output
  size : w.heap.size ≤ w'.heap.size
  frame : ∀ b, b < w.heap.size → ¬ Own ρ s b → w'.heap[b]? = w.heap[b]?
  own : ∀ b, Own ρ' s' b → Own ρ s b ∨ w.heap.size ≤ b
  names : ∀ i k, Ok s (.g i) k → Ok s' (.g i) k ∧ ρ' (.g i) k = ρ (.g i) k

theorem Evol.refl (ρ : Rho) (s : AS) (w : World) : Evol ρ s w ρ s w :=
  ⟨rfl, rfl, rfl, rfl, Nat.le_refl _, fun _ _ _ => rfl, fun _ h => .inl h, fun _ _ h => ⟨h, rfl⟩⟩

theorem Evol.trans {ρ ρ1 ρ2 : Rho} {s s1 s2 : AS} {w w1 w2 : World} (h : Evol ρ s w ρ1 s1 w1) (k : Evol ρ1 s1 w1 ρ2 s2 w2) : Evol ρ s w ρ2 s2 w2 := by
  refine ⟨k.F.trans h.F, k.os.trans h.os, k.tape.trans h.tape, k.output.trans h.output, Nat.le_trans h.size k.size, ?_, ?_, ?_⟩
  · intro b hb hO
    have hO1 : ¬ Own ρ1 s1 b := fun h1 => (h.own b h1).elim hO (by omega)
    exact (k.frame b (Nat.lt_of_lt_of_le hb h.size) hO1).trans (h.frame b hb hO)
  · intro b hb
    rcases k.own b hb with h1 | h1
    · exact h.own b h1
    · exact .inr (Nat.le_trans h.size h1)
  · intro i q hq
    have h1 := h.names i q hq
    have h2 := k.names i q h1.1
    exact ⟨h2.1, h2.2.trans h1.2⟩

/-! ### code -/

inductive AExit where
  | normal
  | exit (id : Nat)
  | ret
  | pan (c : CV)

def Ex (R : CV → Value → Prop) : AExit → Exit → Prop
  | .normal, .normal => True
  | .exit i, .exit j => i = j
  | .ret, .ret => True
  | .pan c, .panic ch => ∃ v, R c v ∧ ch = [{ v, recovered := false }]
  | _, _ => False

abbrev APost := AExit → AS → Prop

/-- What is known behind a piece of code. -/
def AQ (n : Nat) (Q : APost) (ρ : Rho) (s : AS) (w : World) : Exit → Act → World → Prop := fun e a' w' =>
  ∃ ae s' ρ', Ex (VS ρ' s' w') ae e ∧ Q ae s' ∧ Sim n ρ' s' w' a' ∧ Evol ρ s w ρ' s' w'

def AWp (P : Program) (n : Nat) (c : Code) (Q : APost) (s : AS) : Prop :=
  ∀ ρ w a, Sim n ρ s w a → c.wp P (AQ n Q ρ s w) a w

def AThen (next : AS → Prop) (Q : APost) : APost
  | .normal, s => next s
  | e, s => Q e s

theorem AQ.trans {n : Nat} {Q : APost} {ρ ρ1 : Rho} {s s1 : AS} {w w1 : World} (hE : Evol ρ s w ρ1 s1 w1) {e : Exit} {a' : Act} {w' : World}
    (h : AQ n Q ρ1 s1 w1 e a' w') : AQ n Q ρ s w e a' w' :=
  let ⟨ae, s', ρ', h1, h2, h3, h4⟩ := h
  ⟨ae, s', ρ', h1, h2, h3, hE.trans h4⟩

theorem AWp.mono {P : Program} {n : Nat} {c : Code} {Q Q' : APost} {s : AS} (h : AWp P n c Q s) (hq : ∀ e s, Q e s → Q' e s) : AWp P n c Q' s :=
  fun ρ w a hs => wp_mono (h ρ w a hs) fun _ _ _ ⟨ae, s', ρ', h1, h2, h3, h4⟩ => ⟨ae, s', ρ', h1, hq _ _ h2, h3, h4⟩

theorem AWp.seq {P : Program} {n : Nat} {x y : Code} {Q : APost} {s : AS} (h : AWp P n x (AThen (AWp P n y Q) Q) s) : AWp P n (.seq x y) Q s := by
  intro ρ w a hs
  refine wp_seq (wp_mono (h ρ w a hs) ?_)
  rintro e a' w' ⟨ae, s', ρ', hex, hq, hsim, hev⟩
  cases ae with
  | normal =>
    cases e <;> first | exact hex.elim | skip
    exact wp_mono (hq ρ' w' a' hsim) fun _ _ _ h => AQ.trans hev h
  | exit i =>
    cases e <;> first | exact hex.elim | skip
    exact ⟨.exit i, s', ρ', hex, hq, hsim, hev⟩
  | ret =>
    cases e <;> first | exact hex.elim | skip
    exact ⟨.ret, s', ρ', hex, hq, hsim, hev⟩
  | pan c =>
    cases e <;> first | exact hex.elim | skip
    exact ⟨.pan c, s', ρ', hex, hq, hsim, hev⟩

theorem AWp.skip {P : Program} {n : Nat} {Q : APost} {s : AS} (h : Q .normal s) : AWp P n .skip Q s :=
  fun ρ w _ hs => wp_skip ⟨.normal, s, ρ, trivial, h, hs, Evol.refl ρ s w⟩

theorem AWp.exit {P : Program} {n id : Nat} {Q : APost} {s : AS} (h : Q (.exit id) s) : AWp P n (.exit id) Q s :=
  fun ρ w _ hs => wp_exit ⟨.exit id, s, ρ, rfl, h, hs, Evol.refl ρ s w⟩

theorem AWp.ret {P : Program} {n : Nat} {Q : APost} {s : AS} (h : Q .ret s) : AWp P n .ret Q s :=
  fun ρ w _ hs => wp_ret ⟨.ret, s, ρ, trivial, h, hs, Evol.refl ρ s w⟩

/-- What an operand is. -/
def cvOf : Value → CV
  | .int k n => .int k n
  | .bool b => .bool b
  | .string s => .str s
  | .slice none 0 0 => .nilslice
  | .nilIface => .nilIface
  | .map none => .nilmap
  | _ => .undef

def AS.ev (s : AS) : Operand → CV
  | .tmp t => s.tmp t
  | .const v => cvOf v
  | .func f => .func f []
  | .global _ => .undef

theorem V.cvOf {ρ : Rho} {w : World} {O : Nat → Prop} {N : Nm → Nat → Prop} (v : Value) : V ρ w O N (cvOf v) v := by
  unfold Ytceocfancfjdjaa.cvOf
  split
  · exact .int _ _
  · exact .bool _
  · exact .str _
  · exact .nilslice
  · exact .nilIface
  · exact .nilmap
  · exact .undef _

theorem Sim.ev {n : Nat} {ρ : Rho} {s : AS} {w : World} {a : Act} (h : Sim n ρ s w a) (x : Operand) : VS ρ s w (s.ev x) (a.eval x) := by
  cases x with
  | tmp t => exact h.tmp t
  | const v => exact V.cvOf v
  | global g => exact .undef _
  | func f => exact .func f [] #[] rfl (by simp)

theorem AWp.cond {P : Program} {n : Nat} {c : Operand} {x y : Code} {Q : APost} {s : AS} {b : Bool} (hc : s.ev c = .bool b)
    (h : AWp P n (if b then x else y) Q s) : AWp P n (.cond c x y) Q s := by
  intro ρ w a hs
  have hv := hs.ev c
  rw [hc] at hv
  generalize hx : a.eval c = v at hv
  cases hv
  exact wp_cond hx (h ρ w a hs)

def AInBlock (id : Nat) (Q : APost) : APost
  | .exit id', s => if id' = id then Q .normal s else Q (.exit id') s
  | e, s => Q e s

theorem AWp.block {P : Program} {n id : Nat} {c : Code} {Q : APost} {s : AS} (h : AWp P n c (AInBlock id Q) s) : AWp P n (.block id c) Q s := by
  intro ρ w a hs
  refine wp_block (wp_mono (h ρ w a hs) ?_)
  rintro e a' w' ⟨ae, s', ρ', hex, hq, hsim, hev⟩
  cases ae with
  | normal =>
    cases e <;> first | exact hex.elim | skip
    exact ⟨.normal, s', ρ', trivial, hq, hsim, hev⟩
  | exit i =>
    cases e <;> first | exact hex.elim | skip
    rename_i j
    have hij : i = j := hex
    subst hij
    by_cases hi : i = id
    · simp only [AInBlock, hi, if_true] at hq
      simp only [Exit.inBlock, hi, if_true]
      exact ⟨.normal, s', ρ', trivial, hq, hsim, hev⟩
    · simp only [AInBlock, hi, if_false] at hq
      simp only [Exit.inBlock, hi, if_false]
      exact ⟨.exit i, s', ρ', rfl, hq, hsim, hev⟩
  | ret =>
    cases e <;> first | exact hex.elim | skip
    exact ⟨.ret, s', ρ', hex, hq, hsim, hev⟩
  | pan c =>
    cases e <;> first | exact hex.elim | skip
    exact ⟨.pan c, s', ρ', hex, hq, hsim, hev⟩

/-- Inside a loop, at a round's head. -/
def AWpL (P : Program) (n : Nat) (c : Code) (Q : APost) (s : AS) : Prop :=
  ∀ ρ w a, Sim n ρ s w a → ∀ (b : Frame) (k : List Item) (cs : List Frame),
    ∃ e a' w', AQ n Q ρ s w e a' w' ∧ Arrives P (lone (b.at a (.code c :: .inLoop c :: k)) cs w) b k cs e a' w'

theorem AWp.loop {P : Program} {n : Nat} {c : Code} {Q : APost} {s : AS} (h : AWpL P n c Q s) : AWp P n (.loop c) Q s := by
  intro ρ w a hs b k cs
  obtain ⟨e, a', w', hq, harr⟩ := h ρ w a hs b k cs
  exact ⟨e, a', w', hq, .of_steps (.one step_loop) harr⟩

theorem AWpL.round {P : Program} {n : Nat} {c : Code} {Q : APost} {s : AS} (h : AWp P n c (AThen (AWpL P n c Q) Q) s) : AWpL P n c Q s := by
  intro ρ w a hs b k cs
  obtain ⟨e, a1, w1, hq, harr⟩ := h ρ w a hs b (.inLoop c :: k) cs
  obtain ⟨ae, s', ρ', hex, hq, hsim, hev⟩ := hq
  cases ae with
  | normal =>
    cases e <;> first | exact hex.elim | skip
    obtain ⟨e2, a2, w2, hq2, harr2⟩ := hq ρ' w1 a1 hsim b k cs
    exact ⟨e2, a2, w2, AQ.trans hev hq2, .of_steps (Steps.trans harr (.one step_inLoop)) harr2⟩
  | exit i =>
    cases e <;> first | exact hex.elim | skip
    exact ⟨_, a1, w1, ⟨.exit i, s', ρ', hex, hq, hsim, hev⟩, .pass (x := .inLoop c) rfl (fun _ _ => .inl (by simp)) harr⟩
  | ret =>
    cases e <;> first | exact hex.elim | skip
    exact ⟨_, a1, w1, ⟨.ret, s', ρ', hex, hq, hsim, hev⟩, .pass (x := .inLoop c) rfl (fun _ _ => .inl (by simp)) harr⟩
  | pan c =>
    cases e <;> first | exact hex.elim | skip
    exact ⟨_, a1, w1, ⟨.pan c, s', ρ', hex, hq, hsim, hev⟩, .pass (x := .inLoop _) rfl (fun _ _ => .inl (by simp)) harr⟩

end Go.Proofs.Ytceocfancfjdjaa
