/- Maps from strings to ints: made, asked, grown. No condition. -/
import Derived.Test.YtceocfancfjdjaaTree
import Derived.WideMake
namespace Go.Proofs.Ytceocfancfjdjaa
open Go Go.RowKit

def mget : List (ByteArray × Int) → ByteArray → Option Int
  | [], _ => none
  | (k', x) :: r, k => if seq k k' then some x else mget r k

def MRel (es : List (ByteArray × Int)) (mes : List MapEntry) : Prop :=
  es.length = mes.length ∧ ∀ (j : Nat) (k : ByteArray) (x : Int) (e : MapEntry), es[j]? = some (k, x) → mes[j]? = some e → e.key = .string k ∧ e.val = .int .i64 x

theorem MRel.cons {k : ByteArray} {x : Int} {es : List (ByteArray × Int)} {e : MapEntry} {mes : List MapEntry} (h : MRel ((k, x) :: es) (e :: mes)) : (e.key = .string k ∧ e.val = .int .i64 x) ∧ MRel es mes :=
  ⟨h.2 0 k x e rfl rfl, by have := h.1; simpa using this, fun j k x e hk he => h.2 (j + 1) k x e (by simpa using hk) (by simpa using he)⟩

theorem beq_seq (a b : ByteArray) : (a == b) = seq a b := by
  rw [Bool.eq_iff_iff, MapKept.bytes_beq, seq_iff]

theorem find_map (b : ByteArray) : ∀ (es : List (ByteArray × Int)) (mes : List MapEntry) (i : Nat), MRel es mes →
    ∃ a, Instr.findNow .string (.string b) mes i = some a ∧ (match mget es b with | some x => ∃ j, a = some (j, .int .i64 x) | none => a = none)
  | [], [], i, _ => ⟨none, rfl, rfl⟩
  | [], _ :: _, _, h => by have := h.1; simp at this
  | _ :: _, [], _, h => by have := h.1; simp at this
  | (k, x) :: es, e :: mes, i, h => by
    obtain ⟨⟨h1, h2⟩, h3⟩ := h.cons
    have hs : Instr.sameNow .string (.string b) e.key = some (seq b k) := by rw [h1, ← beq_seq]; rfl
    cases hb : seq b k with
    | true =>
      refine ⟨some (i, e.val), ?_, ?_⟩
      · simp only [Instr.findNow, hs, hb]
      · simp only [mget, hb, if_true]
        exact ⟨i, by rw [h2]⟩
    | false =>
      obtain ⟨a, h4, h5⟩ := find_map b es mes (i + 1) h3
      refine ⟨a, ?_, ?_⟩
      · simp only [Instr.findNow, hs, hb]; exact h4
      · simp only [mget, hb, Bool.false_eq_true, if_false]; exact h5

theorem und48 : Try.prog.underlying 48 = some (.map 9 3) := Try.underlying48
theorem und9s : Try.prog.underlying 9 = some .string := Try.underlying9

theorem run_check (w : World) (e : Bool) (b : ByteArray) : (Instr.checkKey e 10000 9 (.string b)).run Try.prog w = .ok () w :=
  MapKept.run_checkKey (k := .string b) und9s (by simp [MapKept.IsKey]) e 9999

section
variable {n : Nat} {Q : APost} {s : AS} {o : Oper} {K : AS → Prop}

/-- 'make': a map of its own. -/
theorem AOp.makeMap {t : TypeId} (ho : o.op = .makeMap t none) (hd : dstOk n o.dst = true) (k : K ((s.addG (.map [])).put o.dst (.map (.g s.M.length)))) : AOp Try.prog n o K Q s := by
  intro ρ w a hs
  have hT := Turn.fresh (ρ := ρ) (w := w) (s := s) (s' := s.addG (.map [])) (nm := .g s.M.length) (x := .map []) (by simp [AS.get]) (getG s _) (.map #[] 0) 0
  unfold Oper.wp
  have hr : (execOp a.eval o).run Try.prog w = .ok (.value (.map (some w.heap.size))) { w with heap := w.heap.push (.map #[] 0) } := by
    have := run_makeMap_plain (P := Try.prog) w t
    simp only [execOp, ho, Option.map_none]
    rw [Sem.run_bind, this]
    rfl
  rw [hr]
  have hsim := hT.sim hs rfl rfl ⟨#[], 0, by simp [setRho, AObj.ver], rfl, by simp⟩ (glOk_spec (o := .g s.M.length) (x := .map []) rfl)
  refine ⟨_, _, k, hsim.put hd ?_, hT.evol.put _ _⟩
  have h := V.map (ρ := setRho ρ (.g s.M.length) 0 (w.heap.size, 0)) (w := { w with heap := w.heap.push (.map #[] 0) }) (O := OwnF (setRho ρ (.g s.M.length) 0 (w.heap.size, 0)) (s.addG (.map [])))
    (N := Ok (s.addG (.map []))) (.g s.M.length) ⟨_, hT.new, Nat.zero_le _⟩
  rw [setRho_same] at h
  exact h

/-- What a map holds under a key, and whether it does. -/
theorem AOp.lookup {x y : Operand} {nm : Nm} {es : List (ByteArray × Int)} {b : ByteArray} (ho : o.op = .lookup 48 x y true) (hx : (s.ev x = .map nm ∧ s.get nm = some (.map es)) ∨ (s.ev x = .nilmap ∧ es = []))
    (hy : s.ev y = .str b) (hd : dstOk n o.dst = true) (k : K (s.put o.dst (.tuple [.int .i64 ((mget es b).getD 0), .bool (mget es b).isSome]))) : AOp Try.prog n o K Q s := by
  intro ρ w a hs
  have hyv := hs.ev y
  rw [hy] at hyv
  generalize hvy : a.eval y = vy at hyv
  cases hyv
  have hxv := hs.ev x
  generalize hvx : a.eval x = vx at hxv
  have hmes : ∃ (mes : Array MapEntry) , MRel es mes.toList ∧ ((∃ r cl, vx = .map (some r) ∧ w.heap[r]? = some (.map mes cl)) ∨ (vx = .map none ∧ mes = #[])) := by
    rcases hx with ⟨hx, hg⟩ | ⟨hx, rfl⟩
    · rw [hx] at hxv
      cases hxv
      obtain ⟨mes, cl, hb, hl, hV⟩ := hs.rel.obj _ _ hg
      exact ⟨mes, ⟨by simpa using hl, fun j k x e hk he => hV j k x e hk (by simpa using he)⟩, .inl ⟨_, cl, rfl, hb⟩⟩
    · rw [hx] at hxv
      cases hxv
      exact ⟨#[], ⟨rfl, by simp⟩, .inr ⟨rfl, rfl⟩⟩
  obtain ⟨mes, hrel, hcase⟩ := hmes
  obtain ⟨r, hfind, hgot⟩ := find_map b es mes.toList 0 hrel
  have hfk := MapKept.run_findKey (w := w) und9s hfind
  have hz := zero_of_info zfo3 w
  unfold Oper.wp
  have hrun : (execOp a.eval o).run Try.prog w = .ok (.value (.tuple #[.int .i64 ((mget es b).getD 0), .bool (mget es b).isSome])) w := by
    have hin : (Instr.lookup 48 vx (.string b) true).run Try.prog w = .ok (.tuple #[.int .i64 ((mget es b).getD 0), .bool (mget es b).isSome]) w := by
      rcases hcase with ⟨r', cl, rfl, hb⟩ | ⟨rfl, rfl⟩
      · cases hm : mget es b with
        | none =>
          rw [hm] at hgot
          subst hgot
          simp [Instr.lookup, run_underlying und48, MapKept.run_getObj_map hb, run_check, hfk, hz, Result.andThen]
        | some x =>
          rw [hm] at hgot
          obtain ⟨j, rfl⟩ := hgot
          simp [Instr.lookup, run_underlying und48, MapKept.run_getObj_map hb, run_check, hfk, hz, Result.andThen]
      · cases hm : mget es b with
        | none =>
          rw [hm] at hgot
          subst hgot
          simp [Instr.lookup, run_underlying und48, run_check, hfk, hz, Result.andThen]
        | some x =>
          rw [hm] at hgot
          obtain ⟨j, rfl⟩ := hgot
          simp [Instr.lookup, run_underlying und48, run_check, hfk, hz, Result.andThen]
    simp only [execOp, ho, hvx, hvy]
    rw [Sem.run_bind, hin]
    rfl
  rw [hrun]
  refine ⟨_, ρ, k, hs.put hd (.tuple _ _ rfl ?_), (Evol.refl ρ s w).put _ _⟩
  intro j c v hc hv
  match j with
  | 0 => simp at hc hv; subst hc; subst hv; exact .int _ _
  | 1 => simp at hc hv; subst hc; subst hv; exact .bool _
  | j + 2 => simp at hc

/-- A map grows. -/
theorem AOp.mapNew {x y z : Operand} {nm : Nm} {es : List (ByteArray × Int)} {b : ByteArray} {i : Int} (ho : o.op = .mapUpdate 48 x y z) (hdst : o.dst = none) (hx : s.ev x = .map nm) (hg : s.get nm = some (.map es))
    (hy : s.ev y = .str b) (hz : s.ev z = .int .i64 i) (hno : mget es b = none) (k : K (s.upd nm (.map (es ++ [(b, i)])))) : AOp Try.prog n o K Q s := by
  intro ρ w a hs
  have hyv := hs.ev y
  rw [hy] at hyv
  generalize hvy : a.eval y = vy at hyv
  cases hyv
  have hzv := hs.ev z
  rw [hz] at hzv
  generalize hvz : a.eval z = vz at hzv
  cases hzv
  have hxv := hs.ev x
  rw [hx] at hxv
  generalize hvx : a.eval x = vx at hxv
  cases hxv
  obtain ⟨mes, cl, hb, hl, hV⟩ := hs.rel.obj _ _ hg
  have hrel : MRel es mes.toList := ⟨by simpa using hl, fun j k x e hk he => hV j k x e hk (by simpa using he)⟩
  obtain ⟨r, hfind, hgot⟩ := find_map b es mes.toList 0 hrel
  rw [hno] at hgot
  subst hgot
  have hfk := MapKept.run_findKey (w := w) und9s hfind
  have hset := MapKept.run_setObj_map (P := Try.prog) (Obj.map (mes.push { key := .string b, val := .int .i64 i, born := cl }) (cl + 1)) hb
  unfold Oper.wp
  have hrun : (execOp a.eval o).run Try.prog w = .ok .skip { w with heap := w.heap.setIfInBounds (ρ nm 0).1 (Obj.map (mes.push { key := .string b, val := .int .i64 i, born := cl }) (cl + 1)) } := by
    have hin : (Instr.mapUpdate 48 (.map (some (ρ nm 0).1)) (.string b) (.int .i64 i)).run Try.prog w = .ok () { w with heap := w.heap.setIfInBounds (ρ nm 0).1 (Obj.map (mes.push { key := .string b, val := .int .i64 i, born := cl }) (cl + 1)) } := by
      simp [Instr.mapUpdate, run_underlying und48, MapKept.run_getObj_map hb, run_check, hfk, hset, Result.andThen]
    simp only [execOp, ho, hvx, hvy, hvz]
    rw [Sem.run_bind, hin]
    rfl
  rw [hrun]
  have hh := MapKept.heap_set (o' := Obj.map (mes.push { key := .string b, val := .int .i64 i, born := cl }) (cl + 1)) hb
  have ht : Turn ρ s w ρ (s.upd nm (.map (es ++ [(b, i)]))) { w with heap := w.heap.setIfInBounds (ρ nm 0).1 (Obj.map (mes.push { key := .string b, val := .int .i64 i, born := cl }) (cl + 1)) } nm (.map (es ++ [(b, i)])) :=
    Turn.write hg rfl rfl rfl rfl (by simp) (fun b hb' => hh.2 b hb')
  refine ⟨_, ρ, k, ?_, ht.evol⟩
  have hsim := ht.sim hs (upd_fr _ _) (upd_ds _ _) ⟨_, _, hh.1, by simp [hl], fun j k x e hk he => ?_⟩ (glOk_spec (o := nm) (x := .map (es ++ [(b, i)])) (by cases nm <;> rfl))
  · rw [hdst]; exact hsim
  · by_cases hj : j < es.length
    · rw [List.getElem?_append_left hj] at hk
      rw [Array.getElem?_push_lt (by omega)] at he
      exact hV j k x e hk (by rw [← he]; exact Array.getElem?_eq_getElem (by omega))
    · have hje : j = es.length := by
        have := (List.getElem?_eq_some_iff.1 hk).1
        simp at this
        omega
      subst hje
      simp at hk
      rw [hl] at he
      simp at he
      obtain ⟨rfl, rfl⟩ := hk
      subst he
      exact ⟨rfl, rfl⟩

end
end Go.Proofs.Ytceocfancfjdjaa
