/- The test of a unit: the small tests of nodes, how high they are. No condition. -/
import Derived.Test.YtceocfancfjdjaaFnD
import Derived.Test.YtceocfancfjdjaaDraw3
import Derived.Test.YtceocfancfjdjaaSameU
namespace Go.Proofs.Ytceocfancfjdjaa
open Go Go.RowKit
attribute [local irreducible] ACalls AOps AOp AWp AWpL AThen AInBlock bodyQ seq

/-- Has a node just an operator, a number, a string, names, as said. -/
def plainB (o n : Int) (s : ByteArray) (ns : List ByteArray) (bo bn bs bm : Bool) : Bool :=
  (bo || o == 0) && (bn || n == 0) && (bs || seq s nothing) && (bm || (ns.length : Int) == 0)

set_option maxHeartbeats 2000000 in
theorem plain_ok (k o n : Int) (s : ByteArray) (ns : List ByteArray) (ks : List Tree) (p : Int) (bo bn bs bm : Bool) :
    Ans 45 [(Tree.mk k o n s ns ks p).cv, .bool bo, .bool bn, .bool bs, .bool bm] (.bool (plainB o n s ns bo bn bs bm)) := by
  intro M
  refine ACalls.of_body Try.func45 rfl rfl rfl ?_
  simp only [Try.ntmps45, frOf]
  cases bo <;> cases bn <;> cases bs <;> cases bm
  all_goals repeat' (first
      | (show AOps _ _ _ _ _ _; first
          | refine AOps.nil ?_
          | refine AOps.plain rfl (W.pure rfl rfl rfl ?_)
          | refine AOps.plain rfl (W.cmp rfl rfl rfl rfl (fun _ => ?_) (fun _ => ?_))
          | refine W.leave rfl rfl rfl rfl ?_
          | refine AOps.take rfl rfl (W.pure rfl rfl rfl ?_)
          | refine AOps.take rfl rfl (W.cmp rfl rfl rfl rfl (fun _ => ?_) (fun _ => ?_))
          | refine AOps.plain rfl (W.boxI rfl rfl rfl rfl rfl rfl ?_)
          | refine AOps.plain rfl (W.build rfl rfl rfl rfl rfl rfl rfl ?_)
          | refine AOps.plain rfl (W.alloc rfl rfl rfl rfl rfl ?_)
          | refine AOps.plain rfl (W.storeL rfl rfl rfl rfl rfl rfl rfl rfl rfl ?_)
          | refine AOps.plain rfl (W.buildSlice rfl rfl rfl rfl rfl rfl rfl rfl rfl ?_))
      | (show AWp _ _ _ _ _; first
          | refine AWp.seq ?_
          | refine AWp.region ?_
          | refine AWp.condT rfl ?_
          | refine AWp.condF rfl ?_
          | refine AWp.skip ?_
          | refine AWp.block ?_
          | refine AWp.exit ?_
          | refine AWp.ret ?_)
      | refine AThen.normal ?_
      | refine AThen.exit ?_
      | refine AThen.ret ?_
      | refine AThen.pan ?_
      | refine AInBlock.pan ?_
      | refine AInBlock.normal ?_
      | refine AInBlock.ret ?_
      | refine AInBlock.same ?_
      | refine AInBlock.other rfl ?_)
  all_goals refine bodyQ.one rfl rfl rfl ⟨?_, rfl⟩
  all_goals simp [plainB, *]
  all_goals first | assumption | simp_all [nothing]

def numB (o n : Int) (s : ByteArray) (ns : List ByteArray) (ks : List Tree) (most : Int) : Bool :=
  plainB o n s ns false true false false && decide (n ≥ 0) && decide (n < most) && (ks.length : Int) == 0

set_option maxHeartbeats 1000000 in
theorem number_ok (k o n : Int) (s : ByteArray) (ns : List ByteArray) (ks : List Tree) (p most : Int) : Ans 56 [(Tree.mk k o n s ns ks p).cv, .int .i64 most] (.bool (numB o n s ns ks most)) := by
  intro M
  refine ACalls.of_body Try.func56 rfl rfl rfl ?_
  simp only [Try.ntmps56, frOf]
  repeat' (first
      | (show AOps _ _ _ _ _ _; first
          | refine AOps.nil ?_
          | refine AOps.plain rfl (W.pure rfl rfl rfl ?_)
          | refine AOps.plain rfl (W.callB rfl rfl rfl rfl rfl (plain_ok k o n s ns ks p _ _ _ _ M) rfl rfl (fun _ => ?_) (fun _ => ?_))
          | refine AOps.plain rfl (W.cmp rfl rfl rfl rfl (fun _ => ?_) (fun _ => ?_))
          | refine W.leave rfl rfl rfl rfl ?_
          | refine AOps.take rfl rfl (W.pure rfl rfl rfl ?_)
          | refine AOps.take rfl rfl (W.callB rfl rfl rfl rfl rfl (plain_ok k o n s ns ks p _ _ _ _ M) rfl rfl (fun _ => ?_) (fun _ => ?_))
          | refine AOps.take rfl rfl (W.cmp rfl rfl rfl rfl (fun _ => ?_) (fun _ => ?_))
          | refine AOps.plain rfl (W.boxI rfl rfl rfl rfl rfl rfl ?_)
          | refine AOps.plain rfl (W.build rfl rfl rfl rfl rfl rfl rfl ?_)
          | refine AOps.plain rfl (W.alloc rfl rfl rfl rfl rfl ?_)
          | refine AOps.plain rfl (W.storeL rfl rfl rfl rfl rfl rfl rfl rfl rfl ?_)
          | refine AOps.plain rfl (W.buildSlice rfl rfl rfl rfl rfl rfl rfl rfl rfl ?_))
      | (show AWp _ _ _ _ _; first
          | refine AWp.seq ?_
          | refine AWp.region ?_
          | refine AWp.condT rfl ?_
          | refine AWp.condF rfl ?_
          | refine AWp.skip ?_
          | refine AWp.block ?_
          | refine AWp.exit ?_
          | refine AWp.ret ?_)
      | refine AThen.normal ?_
      | refine AThen.exit ?_
      | refine AThen.ret ?_
      | refine AThen.pan ?_
      | refine AInBlock.pan ?_
      | refine AInBlock.normal ?_
      | refine AInBlock.ret ?_
      | refine AInBlock.same ?_
      | refine AInBlock.other rfl ?_)
  all_goals refine bodyQ.one rfl rfl rfl ⟨?_, rfl⟩
  all_goals simp [numB, *]

set_option maxHeartbeats 400000 in
theorem ulow1_ok (t : Tree) (m : Int) (hm : 0 < m) (hm2 : m < 4611686018427387904) (b : Bool) (M : List AObj)
    (h : ACalls 23 [t.cv, .int .i64 (m - 1)] M (fun r M' => r = .ret (.bool b) ∧ M' = M)) :
    ACalls 32 [t.cv, .iptr [.int .i64 m] 0] M (fun r M' => r = .ret (.bool (!b)) ∧ M' = M) := by
  have hw := wrapSub hm hm2
  obtain ⟨k, o, n, s, ns, ks, p⟩ := t
  refine ACalls.of_body Try.func32 rfl rfl rfl ?_
  simp only [Try.ntmps32, frOf]
  repeat' (first
      | (show AOps _ _ _ _ _ _; first
          | refine AOps.nil ?_
          | refine AOps.plain rfl (W.pure rfl rfl rfl ?_)
          | refine AOps.plain rfl (W.callB rfl rfl rfl rfl rfl (by rw [hw]; exact h) rfl rfl (fun _ => ?_) (fun _ => ?_))
          | refine AOps.plain rfl (W.cmp rfl rfl rfl rfl (fun _ => ?_) (fun _ => ?_))
          | refine W.leave rfl rfl rfl rfl ?_
          | refine AOps.take rfl rfl (W.pure rfl rfl rfl ?_)
          | refine AOps.take rfl rfl (W.callB rfl rfl rfl rfl rfl (by rw [hw]; exact h) rfl rfl (fun _ => ?_) (fun _ => ?_))
          | refine AOps.take rfl rfl (W.cmp rfl rfl rfl rfl (fun _ => ?_) (fun _ => ?_))
          | refine AOps.plain rfl (W.boxI rfl rfl rfl rfl rfl rfl ?_)
          | refine AOps.plain rfl (W.build rfl rfl rfl rfl rfl rfl rfl ?_)
          | refine AOps.plain rfl (W.alloc rfl rfl rfl rfl rfl ?_)
          | refine AOps.plain rfl (W.storeL rfl rfl rfl rfl rfl rfl rfl rfl rfl ?_)
          | refine AOps.plain rfl (W.buildSlice rfl rfl rfl rfl rfl rfl rfl rfl rfl ?_))
      | (show AWp _ _ _ _ _; first
          | refine AWp.seq ?_
          | refine AWp.region ?_
          | refine AWp.condT rfl ?_
          | refine AWp.condF rfl ?_
          | refine AWp.skip ?_
          | refine AWp.block ?_
          | refine AWp.exit ?_
          | refine AWp.ret ?_)
      | refine AThen.normal ?_
      | refine AThen.exit ?_
      | refine AThen.ret ?_
      | refine AThen.pan ?_
      | refine AInBlock.pan ?_
      | refine AInBlock.normal ?_
      | refine AInBlock.ret ?_
      | refine AInBlock.same ?_
      | refine AInBlock.other rfl ?_)
  all_goals refine bodyQ.one rfl rfl rfl ⟨?_, rfl⟩
  all_goals simp [*]

set_option maxHeartbeats 400000 in
theorem ulow_ok (t : Tree) : t.small → ∀ m : Int, m < 4611686018427387904 → Ans 23 [t.cv, .int .i64 m] (.bool (lowT t m)) := by
  induction t using Tree.ind with
  | h k o n s ns ks p ih =>
    intro hsm m hm2 M
    by_cases hm : 0 < m
    · have hc := containsN_ok 32 [.iptr [.int .i64 m] 0] ks (fun t => !(lowT t (m - 1))) M rfl hsm.2.2.1
        (fun t ht => ulow1_ok t m hm hm2 _ M (ih t ht (smalls_mem hsm.2.2.2.2 ht) (m - 1) (by omega) M))
      have hn := not_any ks (fun t => !(lowT t (m - 1))) (fun t => lowT t (m - 1)) (fun _ _ => rfl)
      refine ACalls.of_body Try.func23 rfl rfl rfl ?_
      simp only [Try.ntmps23, frOf]
      repeat' (first
          | (show AOps _ _ _ _ _ _; first
              | refine AOps.nil ?_
              | refine AOps.plain rfl (W.pure rfl rfl rfl ?_)
              | refine AOps.plain rfl (W.cmpT rfl rfl rfl rfl (decide_eq_true hm) ?_)
              | refine AOps.plain rfl (W.callB rfl rfl rfl rfl rfl (hc) rfl rfl (fun _ => ?_) (fun _ => ?_))
              | refine AOps.plain rfl (W.cmp rfl rfl rfl rfl (fun _ => ?_) (fun _ => ?_))
              | refine W.leave rfl rfl rfl rfl ?_
              | refine AOps.take rfl rfl (W.pure rfl rfl rfl ?_)
              | refine AOps.take rfl rfl (W.cmpT rfl rfl rfl rfl (decide_eq_true hm) ?_)
              | refine AOps.take rfl rfl (W.callB rfl rfl rfl rfl rfl (hc) rfl rfl (fun _ => ?_) (fun _ => ?_))
              | refine AOps.take rfl rfl (W.cmp rfl rfl rfl rfl (fun _ => ?_) (fun _ => ?_))
              | refine AOps.plain rfl (W.boxI rfl rfl rfl rfl rfl rfl ?_)
              | refine AOps.plain rfl (W.build rfl rfl rfl rfl rfl rfl rfl ?_)
              | refine AOps.plain rfl (W.alloc rfl rfl rfl rfl rfl ?_)
              | refine AOps.plain rfl (W.storeL rfl rfl rfl rfl rfl rfl rfl rfl rfl ?_)
              | refine AOps.plain rfl (W.buildSlice rfl rfl rfl rfl rfl rfl rfl rfl rfl ?_))
          | (show AWp _ _ _ _ _; first
              | refine AWp.seq ?_
              | refine AWp.region ?_
              | refine AWp.condT rfl ?_
              | refine AWp.condF rfl ?_
              | refine AWp.skip ?_
              | refine AWp.block ?_
              | refine AWp.exit ?_
              | refine AWp.ret ?_)
          | refine AThen.normal ?_
          | refine AThen.exit ?_
          | refine AThen.ret ?_
          | refine AThen.pan ?_
          | refine AInBlock.pan ?_
          | refine AInBlock.normal ?_
          | refine AInBlock.ret ?_
          | refine AInBlock.same ?_
          | refine AInBlock.other rfl ?_)
      all_goals refine bodyQ.one rfl rfl rfl ⟨?_, rfl⟩
      all_goals simp only [lowT, lowsT_all, ← hn, decide_eq_true (show m > 0 from hm)]
      all_goals simp [*]
    · refine ACalls.of_body Try.func23 rfl rfl rfl ?_
      simp only [Try.ntmps23, frOf]
      repeat' (first
          | (show AOps _ _ _ _ _ _; first
              | refine AOps.nil ?_
              | refine AOps.plain rfl (W.pure rfl rfl rfl ?_)
              | refine AOps.plain rfl (W.cmpF rfl rfl rfl rfl (decide_eq_false hm) ?_)
              | refine AOps.plain rfl (W.cmp rfl rfl rfl rfl (fun _ => ?_) (fun _ => ?_))
              | refine W.leave rfl rfl rfl rfl ?_
              | refine AOps.take rfl rfl (W.pure rfl rfl rfl ?_)
              | refine AOps.take rfl rfl (W.cmpF rfl rfl rfl rfl (decide_eq_false hm) ?_)
              | refine AOps.take rfl rfl (W.cmp rfl rfl rfl rfl (fun _ => ?_) (fun _ => ?_))
              | refine AOps.plain rfl (W.boxI rfl rfl rfl rfl rfl rfl ?_)
              | refine AOps.plain rfl (W.build rfl rfl rfl rfl rfl rfl rfl ?_)
              | refine AOps.plain rfl (W.alloc rfl rfl rfl rfl rfl ?_)
              | refine AOps.plain rfl (W.storeL rfl rfl rfl rfl rfl rfl rfl rfl rfl ?_)
              | refine AOps.plain rfl (W.buildSlice rfl rfl rfl rfl rfl rfl rfl rfl rfl ?_))
          | (show AWp _ _ _ _ _; first
              | refine AWp.seq ?_
              | refine AWp.region ?_
              | refine AWp.condT rfl ?_
              | refine AWp.condF rfl ?_
              | refine AWp.skip ?_
              | refine AWp.block ?_
              | refine AWp.exit ?_
              | refine AWp.ret ?_)
          | refine AThen.normal ?_
          | refine AThen.exit ?_
          | refine AThen.ret ?_
          | refine AThen.pan ?_
          | refine AInBlock.pan ?_
          | refine AInBlock.normal ?_
          | refine AInBlock.ret ?_
          | refine AInBlock.same ?_
          | refine AInBlock.other rfl ?_)
      all_goals refine bodyQ.one rfl rfl rfl ⟨?_, rfl⟩
      all_goals simp only [lowT, decide_eq_false (show ¬ m > 0 from hm)]
      all_goals rfl

set_option maxHeartbeats 400000 in
theorem high_ok (t : Tree) (hsm : t.small) : Ans 22 [t.cv] (.bool (!(lowT t 12))) := by
  intro M
  have h := ulow_ok t hsm 12 (by decide) M
  obtain ⟨k, o, n, s, ns, ks, p⟩ := t
  refine ACalls.of_body Try.func22 rfl rfl rfl ?_
  simp only [Try.ntmps22, frOf]
  repeat' (first
      | (show AOps _ _ _ _ _ _; first
          | refine AOps.nil ?_
          | refine AOps.plain rfl (W.pure rfl rfl rfl ?_)
          | refine AOps.plain rfl (W.callB rfl rfl rfl rfl rfl (h) rfl rfl (fun _ => ?_) (fun _ => ?_))
          | refine AOps.plain rfl (W.cmp rfl rfl rfl rfl (fun _ => ?_) (fun _ => ?_))
          | refine W.leave rfl rfl rfl rfl ?_
          | refine AOps.take rfl rfl (W.pure rfl rfl rfl ?_)
          | refine AOps.take rfl rfl (W.callB rfl rfl rfl rfl rfl (h) rfl rfl (fun _ => ?_) (fun _ => ?_))
          | refine AOps.take rfl rfl (W.cmp rfl rfl rfl rfl (fun _ => ?_) (fun _ => ?_))
          | refine AOps.plain rfl (W.boxI rfl rfl rfl rfl rfl rfl ?_)
          | refine AOps.plain rfl (W.build rfl rfl rfl rfl rfl rfl rfl ?_)
          | refine AOps.plain rfl (W.alloc rfl rfl rfl rfl rfl ?_)
          | refine AOps.plain rfl (W.storeL rfl rfl rfl rfl rfl rfl rfl rfl rfl ?_)
          | refine AOps.plain rfl (W.buildSlice rfl rfl rfl rfl rfl rfl rfl rfl rfl ?_))
      | (show AWp _ _ _ _ _; first
          | refine AWp.seq ?_
          | refine AWp.region ?_
          | refine AWp.condT rfl ?_
          | refine AWp.condF rfl ?_
          | refine AWp.skip ?_
          | refine AWp.block ?_
          | refine AWp.exit ?_
          | refine AWp.ret ?_)
      | refine AThen.normal ?_
      | refine AThen.exit ?_
      | refine AThen.ret ?_
      | refine AThen.pan ?_
      | refine AInBlock.pan ?_
      | refine AInBlock.normal ?_
      | refine AInBlock.ret ?_
      | refine AInBlock.same ?_
      | refine AInBlock.other rfl ?_)
  all_goals refine bodyQ.one rfl rfl rfl ⟨?_, rfl⟩
  all_goals simp [*]

set_option maxHeartbeats 400000 in
theorem named1_ok (x : ByteArray) (hx : x.size < 281474976710656) : Ans 58 [.str x] (.bool (!(isNameB x))) := by
  intro M
  have h := isName_ok x hx M
  refine ACalls.of_body Try.func58 rfl rfl rfl ?_
  simp only [Try.ntmps58, frOf]
  repeat' (first
      | (show AOps _ _ _ _ _ _; first
          | refine AOps.nil ?_
          | refine AOps.plain rfl (W.pure rfl rfl rfl ?_)
          | refine AOps.plain rfl (W.callB rfl rfl rfl rfl rfl (h) rfl rfl (fun _ => ?_) (fun _ => ?_))
          | refine AOps.plain rfl (W.cmp rfl rfl rfl rfl (fun _ => ?_) (fun _ => ?_))
          | refine W.leave rfl rfl rfl rfl ?_
          | refine AOps.take rfl rfl (W.pure rfl rfl rfl ?_)
          | refine AOps.take rfl rfl (W.callB rfl rfl rfl rfl rfl (h) rfl rfl (fun _ => ?_) (fun _ => ?_))
          | refine AOps.take rfl rfl (W.cmp rfl rfl rfl rfl (fun _ => ?_) (fun _ => ?_))
          | refine AOps.plain rfl (W.boxI rfl rfl rfl rfl rfl rfl ?_)
          | refine AOps.plain rfl (W.build rfl rfl rfl rfl rfl rfl rfl ?_)
          | refine AOps.plain rfl (W.alloc rfl rfl rfl rfl rfl ?_)
          | refine AOps.plain rfl (W.storeL rfl rfl rfl rfl rfl rfl rfl rfl rfl ?_)
          | refine AOps.plain rfl (W.buildSlice rfl rfl rfl rfl rfl rfl rfl rfl rfl ?_))
      | (show AWp _ _ _ _ _; first
          | refine AWp.seq ?_
          | refine AWp.region ?_
          | refine AWp.condT rfl ?_
          | refine AWp.condF rfl ?_
          | refine AWp.skip ?_
          | refine AWp.block ?_
          | refine AWp.exit ?_
          | refine AWp.ret ?_)
      | refine AThen.normal ?_
      | refine AThen.exit ?_
      | refine AThen.ret ?_
      | refine AThen.pan ?_
      | refine AInBlock.pan ?_
      | refine AInBlock.normal ?_
      | refine AInBlock.ret ?_
      | refine AInBlock.same ?_
      | refine AInBlock.other rfl ?_)
  all_goals refine bodyQ.one rfl rfl rfl ⟨?_, rfl⟩
  all_goals simp [*]

/-! ### the tests of lists -/

/-- The checker. -/
def ctxC (G : Int) (row : List CV) (F : Nat) (L : Int) : List CV := [.int .i64 G, .islice row F, .int .i64 L]

set_option maxHeartbeats 400000 in
theorem cexprs1_ok (G : Int) (row : List CV) (F : Nat) (L : Int) (t : Tree) (b : Bool) (M : List AObj) (h : ACalls 48 [.agg (ctxC G row F L), t.cv] M (fun r M' => r = .ret (.bool b) ∧ M' = M)) :
    ACalls 55 [t.cv, .iptr (ctxC G row F L) 0] M (fun r M' => r = .ret (.bool (!b)) ∧ M' = M) := by
  obtain ⟨k, o, n, s, ns, ks, p⟩ := t
  refine ACalls.of_body Try.func55 rfl rfl rfl ?_
  simp only [Try.ntmps55, frOf]
  repeat' (first
      | (show AOps _ _ _ _ _ _; first
          | refine AOps.nil ?_
          | refine AOps.plain rfl (W.pure rfl rfl rfl ?_)
          | refine AOps.plain rfl (W.callB rfl rfl rfl rfl rfl (h) rfl rfl (fun _ => ?_) (fun _ => ?_))
          | refine AOps.plain rfl (W.cmp rfl rfl rfl rfl (fun _ => ?_) (fun _ => ?_))
          | refine W.leave rfl rfl rfl rfl ?_
          | refine AOps.take rfl rfl (W.pure rfl rfl rfl ?_)
          | refine AOps.take rfl rfl (W.callB rfl rfl rfl rfl rfl (h) rfl rfl (fun _ => ?_) (fun _ => ?_))
          | refine AOps.take rfl rfl (W.cmp rfl rfl rfl rfl (fun _ => ?_) (fun _ => ?_))
          | refine AOps.plain rfl (W.boxI rfl rfl rfl rfl rfl rfl ?_)
          | refine AOps.plain rfl (W.build rfl rfl rfl rfl rfl rfl rfl ?_)
          | refine AOps.plain rfl (W.alloc rfl rfl rfl rfl rfl ?_)
          | refine AOps.plain rfl (W.storeL rfl rfl rfl rfl rfl rfl rfl rfl rfl ?_)
          | refine AOps.plain rfl (W.buildSlice rfl rfl rfl rfl rfl rfl rfl rfl rfl ?_))
      | (show AWp _ _ _ _ _; first
          | refine AWp.seq ?_
          | refine AWp.region ?_
          | refine AWp.condT rfl ?_
          | refine AWp.condF rfl ?_
          | refine AWp.skip ?_
          | refine AWp.block ?_
          | refine AWp.exit ?_
          | refine AWp.ret ?_)
      | refine AThen.normal ?_
      | refine AThen.exit ?_
      | refine AThen.ret ?_
      | refine AThen.pan ?_
      | refine AInBlock.pan ?_
      | refine AInBlock.normal ?_
      | refine AInBlock.ret ?_
      | refine AInBlock.same ?_
      | refine AInBlock.other rfl ?_)
  all_goals refine bodyQ.one rfl rfl rfl ⟨?_, rfl⟩
  all_goals simp [*]

set_option maxHeartbeats 400000 in
theorem cstmts1_ok (G : Int) (row : List CV) (F : Nat) (L : Int) (t : Tree) (b : Bool) (M : List AObj) (h : ACalls 34 [.agg (ctxC G row F L), t.cv] M (fun r M' => r = .ret (.bool b) ∧ M' = M)) :
    ACalls 33 [t.cv, .iptr (ctxC G row F L) 0] M (fun r M' => r = .ret (.bool (!b)) ∧ M' = M) := by
  obtain ⟨k, o, n, s, ns, ks, p⟩ := t
  refine ACalls.of_body Try.func33 rfl rfl rfl ?_
  simp only [Try.ntmps33, frOf]
  repeat' (first
      | (show AOps _ _ _ _ _ _; first
          | refine AOps.nil ?_
          | refine AOps.plain rfl (W.pure rfl rfl rfl ?_)
          | refine AOps.plain rfl (W.callB rfl rfl rfl rfl rfl (h) rfl rfl (fun _ => ?_) (fun _ => ?_))
          | refine AOps.plain rfl (W.cmp rfl rfl rfl rfl (fun _ => ?_) (fun _ => ?_))
          | refine W.leave rfl rfl rfl rfl ?_
          | refine AOps.take rfl rfl (W.pure rfl rfl rfl ?_)
          | refine AOps.take rfl rfl (W.callB rfl rfl rfl rfl rfl (h) rfl rfl (fun _ => ?_) (fun _ => ?_))
          | refine AOps.take rfl rfl (W.cmp rfl rfl rfl rfl (fun _ => ?_) (fun _ => ?_))
          | refine AOps.plain rfl (W.boxI rfl rfl rfl rfl rfl rfl ?_)
          | refine AOps.plain rfl (W.build rfl rfl rfl rfl rfl rfl rfl ?_)
          | refine AOps.plain rfl (W.alloc rfl rfl rfl rfl rfl ?_)
          | refine AOps.plain rfl (W.storeL rfl rfl rfl rfl rfl rfl rfl rfl rfl ?_)
          | refine AOps.plain rfl (W.buildSlice rfl rfl rfl rfl rfl rfl rfl rfl rfl ?_))
      | (show AWp _ _ _ _ _; first
          | refine AWp.seq ?_
          | refine AWp.region ?_
          | refine AWp.condT rfl ?_
          | refine AWp.condF rfl ?_
          | refine AWp.skip ?_
          | refine AWp.block ?_
          | refine AWp.exit ?_
          | refine AWp.ret ?_)
      | refine AThen.normal ?_
      | refine AThen.exit ?_
      | refine AThen.ret ?_
      | refine AThen.pan ?_
      | refine AInBlock.pan ?_
      | refine AInBlock.normal ?_
      | refine AInBlock.ret ?_
      | refine AInBlock.same ?_
      | refine AInBlock.other rfl ?_)
  all_goals refine bodyQ.one rfl rfl rfl ⟨?_, rfl⟩
  all_goals simp [*]

def manyU (ks : List Tree) (lo hi : Int) : Bool := decide ((ks.length : Int) ≥ lo) && decide ((ks.length : Int) ≤ hi)

set_option maxHeartbeats 400000 in
theorem cexprs_ok (G : Int) (row : List CV) (F : Nat) (L : Int) (q : Tree → Bool) (ks : List Tree) (lo hi : Int) (M : List AObj) (hlen : ks.length < 281474976710656)
    (h : ∀ t, t ∈ ks → ACalls 48 [.agg (ctxC G row F L), t.cv] M (fun r M' => r = .ret (.bool (q t)) ∧ M' = M)) :
    ACalls 46 [.agg (ctxC G row F L), .islice (rows ks) ks.length, .int .i64 lo, .int .i64 hi] M (fun r M' => r = .ret (.bool (manyU ks lo hi && ks.all q)) ∧ M' = M) := by
  have hc := containsN_ok 55 [.iptr (ctxC G row F L) 0] ks (fun t => !(q t)) M rfl hlen (fun t ht => cexprs1_ok G row F L t _ M (h t ht))
  have hn := not_any ks (fun t => !(q t)) q (fun _ _ => rfl)
  refine ACalls.of_body Try.func46 rfl rfl rfl ?_
  simp only [Try.ntmps46, frOf]
  repeat' (first
      | (show AOps _ _ _ _ _ _; first
          | refine AOps.nil ?_
          | refine AOps.plain rfl (W.pure rfl rfl rfl ?_)
          | refine AOps.plain rfl (W.callB rfl rfl rfl rfl rfl (hc) rfl rfl (fun _ => ?_) (fun _ => ?_))
          | refine AOps.plain rfl (W.cmp rfl rfl rfl rfl (fun _ => ?_) (fun _ => ?_))
          | refine W.leave rfl rfl rfl rfl ?_
          | refine AOps.take rfl rfl (W.pure rfl rfl rfl ?_)
          | refine AOps.take rfl rfl (W.callB rfl rfl rfl rfl rfl (hc) rfl rfl (fun _ => ?_) (fun _ => ?_))
          | refine AOps.take rfl rfl (W.cmp rfl rfl rfl rfl (fun _ => ?_) (fun _ => ?_))
          | refine AOps.plain rfl (W.boxI rfl rfl rfl rfl rfl rfl ?_)
          | refine AOps.plain rfl (W.build rfl rfl rfl rfl rfl rfl rfl ?_)
          | refine AOps.plain rfl (W.alloc rfl rfl rfl rfl rfl ?_)
          | refine AOps.plain rfl (W.storeL rfl rfl rfl rfl rfl rfl rfl rfl rfl ?_)
          | refine AOps.plain rfl (W.buildSlice rfl rfl rfl rfl rfl rfl rfl rfl rfl ?_))
      | (show AWp _ _ _ _ _; first
          | refine AWp.seq ?_
          | refine AWp.region ?_
          | refine AWp.condT rfl ?_
          | refine AWp.condF rfl ?_
          | refine AWp.skip ?_
          | refine AWp.block ?_
          | refine AWp.exit ?_
          | refine AWp.ret ?_)
      | refine AThen.normal ?_
      | refine AThen.exit ?_
      | refine AThen.ret ?_
      | refine AThen.pan ?_
      | refine AInBlock.pan ?_
      | refine AInBlock.normal ?_
      | refine AInBlock.ret ?_
      | refine AInBlock.same ?_
      | refine AInBlock.other rfl ?_)
  all_goals refine bodyQ.one rfl rfl rfl ⟨?_, rfl⟩
  all_goals simp only [manyU, ← hn]
  all_goals simp [*]

set_option maxHeartbeats 400000 in
theorem cstmts_ok (G : Int) (row : List CV) (F : Nat) (L : Int) (q : Tree → Bool) (ks : List Tree) (M : List AObj) (hlen : ks.length < 281474976710656)
    (h : ∀ t, t ∈ ks → ACalls 34 [.agg (ctxC G row F L), t.cv] M (fun r M' => r = .ret (.bool (q t)) ∧ M' = M)) :
    ACalls 24 [.agg (ctxC G row F L), .islice (rows ks) ks.length] M (fun r M' => r = .ret (.bool (decide ((ks.length : Int) ≤ 40) && ks.all q)) ∧ M' = M) := by
  have hc := containsN_ok 33 [.iptr (ctxC G row F L) 0] ks (fun t => !(q t)) M rfl hlen (fun t ht => cstmts1_ok G row F L t _ M (h t ht))
  have hn := not_any ks (fun t => !(q t)) q (fun _ _ => rfl)
  refine ACalls.of_body Try.func24 rfl rfl rfl ?_
  simp only [Try.ntmps24, frOf]
  repeat' (first
      | (show AOps _ _ _ _ _ _; first
          | refine AOps.nil ?_
          | refine AOps.plain rfl (W.pure rfl rfl rfl ?_)
          | refine AOps.plain rfl (W.callB rfl rfl rfl rfl rfl (hc) rfl rfl (fun _ => ?_) (fun _ => ?_))
          | refine AOps.plain rfl (W.cmp rfl rfl rfl rfl (fun _ => ?_) (fun _ => ?_))
          | refine W.leave rfl rfl rfl rfl ?_
          | refine AOps.take rfl rfl (W.pure rfl rfl rfl ?_)
          | refine AOps.take rfl rfl (W.callB rfl rfl rfl rfl rfl (hc) rfl rfl (fun _ => ?_) (fun _ => ?_))
          | refine AOps.take rfl rfl (W.cmp rfl rfl rfl rfl (fun _ => ?_) (fun _ => ?_))
          | refine AOps.plain rfl (W.boxI rfl rfl rfl rfl rfl rfl ?_)
          | refine AOps.plain rfl (W.build rfl rfl rfl rfl rfl rfl rfl ?_)
          | refine AOps.plain rfl (W.alloc rfl rfl rfl rfl rfl ?_)
          | refine AOps.plain rfl (W.storeL rfl rfl rfl rfl rfl rfl rfl rfl rfl ?_)
          | refine AOps.plain rfl (W.buildSlice rfl rfl rfl rfl rfl rfl rfl rfl rfl ?_))
      | (show AWp _ _ _ _ _; first
          | refine AWp.seq ?_
          | refine AWp.region ?_
          | refine AWp.condT rfl ?_
          | refine AWp.condF rfl ?_
          | refine AWp.skip ?_
          | refine AWp.block ?_
          | refine AWp.exit ?_
          | refine AWp.ret ?_)
      | refine AThen.normal ?_
      | refine AThen.exit ?_
      | refine AThen.ret ?_
      | refine AThen.pan ?_
      | refine AInBlock.pan ?_
      | refine AInBlock.normal ?_
      | refine AInBlock.ret ?_
      | refine AInBlock.same ?_
      | refine AInBlock.other rfl ?_)
  all_goals refine bodyQ.one rfl rfl rfl ⟨?_, rfl⟩
  all_goals simp only [← hn]
  all_goals simp [*]

set_option maxHeartbeats 400000 in
theorem cblock_ok (G : Int) (row : List CV) (F : Nat) (L : Int) (q : Tree → Bool) (k o n : Int) (s : ByteArray) (ns : List ByteArray) (ks : List Tree) (p : Int) (M : List AObj)
    (h : ACalls 24 [.agg (ctxC G row F L), .islice (rows ks) ks.length] M (fun r M' => r = .ret (.bool (decide ((ks.length : Int) ≤ 40) && ks.all q)) ∧ M' = M)) :
    ACalls 49 [.agg (ctxC G row F L), (Tree.mk k o n s ns ks p).cv] M (fun r M' => r = .ret (.bool (k == 29 && plainB o n s ns false false false false && (decide ((ks.length : Int) ≤ 40) && ks.all q))) ∧ M' = M) := by
  refine ACalls.of_body Try.func49 rfl rfl rfl ?_
  simp only [Try.ntmps49, frOf]
  repeat' (first
      | (show AOps _ _ _ _ _ _; first
          | refine AOps.nil ?_
          | refine AOps.plain rfl (W.pure rfl rfl rfl ?_)
          | refine AOps.plain rfl (W.callB rfl rfl rfl rfl rfl (h) rfl rfl (fun _ => ?_) (fun _ => ?_))
          | refine AOps.plain rfl (W.callB rfl rfl rfl rfl rfl (plain_ok k o n s ns ks p _ _ _ _ M) rfl rfl (fun _ => ?_) (fun _ => ?_))
          | refine AOps.plain rfl (W.cmp rfl rfl rfl rfl (fun _ => ?_) (fun _ => ?_))
          | refine W.leave rfl rfl rfl rfl ?_
          | refine AOps.take rfl rfl (W.pure rfl rfl rfl ?_)
          | refine AOps.take rfl rfl (W.callB rfl rfl rfl rfl rfl (h) rfl rfl (fun _ => ?_) (fun _ => ?_))
          | refine AOps.take rfl rfl (W.callB rfl rfl rfl rfl rfl (plain_ok k o n s ns ks p _ _ _ _ M) rfl rfl (fun _ => ?_) (fun _ => ?_))
          | refine AOps.take rfl rfl (W.cmp rfl rfl rfl rfl (fun _ => ?_) (fun _ => ?_))
          | refine AOps.plain rfl (W.boxI rfl rfl rfl rfl rfl rfl ?_)
          | refine AOps.plain rfl (W.build rfl rfl rfl rfl rfl rfl rfl ?_)
          | refine AOps.plain rfl (W.alloc rfl rfl rfl rfl rfl ?_)
          | refine AOps.plain rfl (W.storeL rfl rfl rfl rfl rfl rfl rfl rfl rfl ?_)
          | refine AOps.plain rfl (W.buildSlice rfl rfl rfl rfl rfl rfl rfl rfl rfl ?_))
      | (show AWp _ _ _ _ _; first
          | refine AWp.seq ?_
          | refine AWp.region ?_
          | refine AWp.condT rfl ?_
          | refine AWp.condF rfl ?_
          | refine AWp.skip ?_
          | refine AWp.block ?_
          | refine AWp.exit ?_
          | refine AWp.ret ?_)
      | refine AThen.normal ?_
      | refine AThen.exit ?_
      | refine AThen.ret ?_
      | refine AThen.pan ?_
      | refine AInBlock.pan ?_
      | refine AInBlock.normal ?_
      | refine AInBlock.ret ?_
      | refine AInBlock.same ?_
      | refine AInBlock.other rfl ?_)
  all_goals refine bodyQ.one rfl rfl rfl ⟨?_, rfl⟩
  all_goals simp [*]

end Go.Proofs.Ytceocfancfjdjaa
/- (D) The test of a unit: expressions, its parts given. No condition. -/
namespace Go.Proofs.Ytceocfancfjdjaa
open Go Go.RowKit
attribute [local irreducible] ACalls AOps AOp AWp AWpL AThen AInBlock bodyQ seq DOps

mutual
def cexprT (G L F : Int) : Tree → Bool
  | .mk k o n s ns ks _ =>
    if k == 1 || k == 6 then numB o n s ns ks 1
    else if k == 2 then numB o n s ns ks 2
    else if k == 3 then (n == 4611686018427387903 && plainB o n s ns false true false false && (ks.length : Int) == 0) || numB o n s ns ks 4611686018427387903
    else if k == 4 then plainB o n s ns false false true false && decide ((s.size : Int) ≤ 256) && (ks.length : Int) == 0
    else if k == 18 then numB o n s ns ks L
    else if k == 19 then numB o n s ns ks G
    else if k == 20 then numB o n s ns ks F
    else if k == 7 then plainB o n s ns false false false true && decide ((ns.length : Int) ≤ 40) && !(ns.any fun x => !(isNameB x)) && (manyU ks ns.length ns.length && callE G L F ks)
    else if k == 9 then plainB o n s ns true false false false && (o == 1 || o == 2) && (manyU ks 1 1 && callE G L F ks)
    else if k == 10 then plainB o n s ns true false false false && !(seq (signS o) nothing) && (manyU ks 2 2 && callE G L F ks)
    else if k == 11 || k == 12 || k == 14 then plainB o n s ns false false false false && (manyU ks 2 2 && callE G L F ks)
    else if k == 13 then plainB o n s ns false false true false && isNameB s && (manyU ks 1 1 && callE G L F ks)
    else if k == 15 then plainB o n s ns false false false false && (manyU ks 1 7 && callE G L F ks)
    else if k == 16 then plainB o n s ns false false true false && isNameB s && (manyU ks 1 7 && callE G L F ks)
    else if k == 17 then plainB o n s ns true false false false && !(seq (builtS o) nothing) && (manyU ks (builtN o) (builtN o) && callE G L F ks)
    else false
def callE (G L F : Int) : List Tree → Bool
  | [] => true
  | t :: r => cexprT G L F t && callE G L F r
end

theorem callE_all (G L F : Int) (l : List Tree) : callE G L F l = l.all (cexprT G L F) := by
  induction l with
  | nil => rfl
  | cons t r ih => simp [callE, ih]

set_option maxHeartbeats 16000000 in
set_option maxRecDepth 10000 in
theorem cexpr1_ok (G : Int) (row : List CV) (F : Nat) (L : Int) (k o n : Int) (s : ByteArray) (ns : List ByteArray) (ks : List Tree) (p : Int) (M : List AObj) (hsm : (Tree.mk k o n s ns ks p).small)
    (he : ∀ lo hi, ACalls 46 [.agg (ctxC G row F L), .islice (rows ks) ks.length, .int .i64 lo, .int .i64 hi] M (fun r M' => r = .ret (.bool (manyU ks lo hi && callE G L F ks)) ∧ M' = M)) :
    ACalls 48 [.agg (ctxC G row F L), (Tree.mk k o n s ns ks p).cv] M (fun r M' => r = .ret (.bool (cexprT G L F (Tree.mk k o n s ns ks p))) ∧ M' = M) := by
  have hn1 := containsS_ok 58 [] ns (fun x => !(isNameB x)) M rfl hsm.2.1 (fun x hx => named1_ok x (hsm.2.2.2.1 x hx) M)
  have h47 := isName_ok s hsm.1 M
  refine ACalls.of_body Try.func48 rfl rfl rfl ?_
  simp only [Try.ntmps48, frOf]
  repeat' (first
      | (show DOps _ _ _ _ _ _ _ _ _ _ _; first
          | refine D.end ?_
          | refine D.val (.inl rfl) rfl rfl rfl ?_
          | refine D.leave rfl rfl rfl rfl ?_
          | refine D.val (Wants.take rfl rfl) rfl rfl rfl ?_
          | refine D.cmp rfl (.inl rfl) rfl rfl rfl (fun _ => ?_) (fun _ => ?_)
          | refine D.valO (.inl rfl) rfl rfl rfl rfl ?_
          | refine D.build (.inl rfl) rfl rfl rfl rfl rfl rfl rfl ?_
          | refine D.buildSlice (.inl rfl) rfl rfl rfl rfl rfl rfl rfl rfl rfl ?_
          | refine D.cmp rfl (Wants.take rfl rfl) rfl rfl rfl (fun _ => ?_) (fun _ => ?_)
          | refine D.valO (Wants.take rfl rfl) rfl rfl rfl rfl ?_
          | refine D.build (Wants.take rfl rfl) rfl rfl rfl rfl rfl rfl rfl ?_
          | refine D.buildSlice (Wants.take rfl rfl) rfl rfl rfl rfl rfl rfl rfl rfl rfl ?_)
      | (show AOps _ _ _ _ _ _; first
          | refine AOps.nil ?_
          | refine AOps.plain rfl (W.pure rfl rfl rfl ?_)
          | refine AOps.plain rfl (W.callB rfl rfl rfl rfl rfl (plain_ok k o n s ns ks p _ _ _ _ M) rfl rfl (fun _ => ?_) (fun _ => ?_))
          | refine AOps.plain rfl (W.callB rfl rfl rfl rfl rfl (number_ok k o n s ns ks p _ M) rfl rfl (fun _ => ?_) (fun _ => ?_))
          | refine AOps.plain rfl (W.callB rfl rfl rfl rfl rfl (he _ _) rfl rfl (fun _ => ?_) (fun _ => ?_))
          | refine AOps.plain rfl (W.callB rfl rfl rfl rfl rfl (h47) rfl rfl (fun _ => ?_) (fun _ => ?_))
          | refine AOps.plain rfl (W.callB rfl rfl rfl rfl rfl (hn1) rfl rfl (fun _ => ?_) (fun _ => ?_))
          | refine AOps.plain rfl (W.callV rfl rfl rfl rfl rfl (sign_ok o M) rfl rfl rfl ?_)
          | refine AOps.plain rfl (W.callV rfl rfl rfl rfl rfl (built_ok o M) rfl rfl rfl ?_)
          | refine AOps.plain rfl (W.cmp rfl rfl rfl rfl (fun _ => ?_) (fun _ => ?_))
          | refine W.leave rfl rfl rfl rfl ?_
          | refine AOps.take rfl rfl (W.pure rfl rfl rfl ?_)
          | refine AOps.take rfl rfl (W.callB rfl rfl rfl rfl rfl (plain_ok k o n s ns ks p _ _ _ _ M) rfl rfl (fun _ => ?_) (fun _ => ?_))
          | refine AOps.take rfl rfl (W.callB rfl rfl rfl rfl rfl (number_ok k o n s ns ks p _ M) rfl rfl (fun _ => ?_) (fun _ => ?_))
          | refine AOps.take rfl rfl (W.callB rfl rfl rfl rfl rfl (he _ _) rfl rfl (fun _ => ?_) (fun _ => ?_))
          | refine AOps.take rfl rfl (W.callB rfl rfl rfl rfl rfl (h47) rfl rfl (fun _ => ?_) (fun _ => ?_))
          | refine AOps.take rfl rfl (W.callB rfl rfl rfl rfl rfl (hn1) rfl rfl (fun _ => ?_) (fun _ => ?_))
          | refine AOps.take rfl rfl (W.callV rfl rfl rfl rfl rfl (sign_ok o M) rfl rfl rfl ?_)
          | refine AOps.take rfl rfl (W.callV rfl rfl rfl rfl rfl (built_ok o M) rfl rfl rfl ?_)
          | refine AOps.take rfl rfl (W.cmp rfl rfl rfl rfl (fun _ => ?_) (fun _ => ?_))
          | refine AOps.plain rfl (W.boxI rfl rfl rfl rfl rfl rfl ?_)
          | refine AOps.plain rfl (W.build rfl rfl rfl rfl rfl rfl rfl ?_)
          | refine AOps.plain rfl (W.alloc rfl rfl rfl rfl rfl ?_)
          | refine AOps.plain rfl (W.storeL rfl rfl rfl rfl rfl rfl rfl rfl rfl ?_)
          | refine AOps.plain rfl (W.buildSlice rfl rfl rfl rfl rfl rfl rfl rfl rfl ?_))
      | (show AWp _ _ _ _ _; first
          | refine AWp.seq ?_
          | refine AWp.region ?_
          | refine AWp.condT rfl ?_
          | refine AWp.condF rfl ?_
          | refine AWp.skip ?_
          | refine AWp.block ?_
          | refine AWp.exit ?_
          | refine AWp.ret ?_
          | refine AWp.draw0 (by kernel_rfl) ?_)
      | refine AThen.normal ?_
      | refine AThen.exit ?_
      | refine AThen.ret ?_
      | refine AThen.pan ?_
      | refine AInBlock.pan ?_
      | refine AInBlock.normal ?_
      | refine AInBlock.ret ?_
      | refine AInBlock.same ?_
      | refine AInBlock.other rfl ?_)
  all_goals refine bodyQ.one rfl rfl rfl ⟨?_, rfl⟩
  all_goals (clear he hn1 h47 hsm; simp [cexprT, nothing, *])

end Go.Proofs.Ytceocfancfjdjaa
/- (D) The test of a unit: statements, its parts given; any tree. No condition. -/
namespace Go.Proofs.Ytceocfancfjdjaa
open Go Go.RowKit
attribute [local irreducible] ACalls AOps AOp AWp AWpL AThen AInBlock bodyQ seq DOps

mutual
def cstmtT (G L F : Int) : Tree → Bool
  | .mk k o n s ns ks _ =>
    if k == 33 then plainB o n s ns false true false false && decide (n ≥ 0) && decide (n < L) && (manyU ks 1 1 && callE G L F ks)
    else if k == 34 then plainB o n s ns false true false false && decide (n ≥ 0) && decide (n < G) && (manyU ks 1 1 && callE G L F ks)
    else if k == 23 then plainB o n s ns false false true false && isNameB s && (manyU ks 2 2 && callE G L F ks)
    else if k == 25 then plainB o n s ns false false true false && isNameB s && (manyU ks 1 1 && callE G L F ks)
    else if k == 24 then plainB o n s ns false false false false && (manyU ks 3 3 && callE G L F ks)
    else if k == 26 then plainB o n s ns false false false false && (manyU ks 2 2 && callE G L F ks)
    else if k == 27 || k == 31 || k == 32 then plainB o n s ns false false false false && (manyU ks 1 1 && callE G L F ks)
    else if k == 28 then plainB o n s ns false false false false && cifT G L F ks
    else if k == 30 then plainB o n s ns false false false false && cwhileT G L F ks
    else false
def cblockT (G L F : Int) : Tree → Bool
  | .mk k o n s ns ks _ => k == 29 && plainB o n s ns false false false false && (decide ((ks.length : Int) ≤ 40) && callS G L F ks)
def cifT (G L F : Int) : List Tree → Bool
  | [a, b, c] => cexprT G L F a && cblockT G L F b && cblockT G L F c
  | _ => false
def cwhileT (G L F : Int) : List Tree → Bool
  | [a, b] => cexprT G L F a && cblockT G L F b
  | _ => false
def callS (G L F : Int) : List Tree → Bool
  | [] => true
  | t :: r => cstmtT G L F t && callS G L F r
end

theorem callS_all (G L F : Int) (l : List Tree) : callS G L F l = l.all (cstmtT G L F) := by
  induction l with
  | nil => rfl
  | cons t r ih => simp [callS, ih]

theorem ctx_noL (G : Int) (row : List CV) (F : Nat) (L : Int) (t : Tree) : noLs [.agg (ctxC G row F L), t.cv] = true := by
  simp only [ctxC, noLs, noL, t.noL_cv, Bool.and_self]

set_option maxHeartbeats 16000000 in
set_option maxRecDepth 10000 in
theorem cstmt1_ok (G : Int) (row : List CV) (F : Nat) (L : Int) (k o n : Int) (s : ByteArray) (ns : List ByteArray) (ks : List Tree) (p : Int) (M : List AObj) (hsm : (Tree.mk k o n s ns ks p).small)
    (he : ∀ lo hi, ACalls 46 [.agg (ctxC G row F L), .islice (rows ks) ks.length, .int .i64 lo, .int .i64 hi] M (fun r M' => r = .ret (.bool (manyU ks lo hi && callE G L F ks)) ∧ M' = M))
    (h1 : ∀ t, t ∈ ks → Ans 48 [.agg (ctxC G row F L), t.cv] (.bool (cexprT G L F t)))
    (h2 : ∀ t, t ∈ ks → Ans 49 [.agg (ctxC G row F L), t.cv] (.bool (cblockT G L F t))) :
    ACalls 34 [.agg (ctxC G row F L), (Tree.mk k o n s ns ks p).cv] M (fun r M' => r = .ret (.bool (cstmtT G L F (Tree.mk k o n s ns ks p))) ∧ M' = M) := by
  have h47 := isName_ok s hsm.1 M
  by_cases hk28 : k = 28
  · subst hk28
    by_cases hl : ks.length = 3
    · match ks, hl with
      | [a, b, c], _ =>
        have ha := h1 a (by simp)
        have hb := h2 b (by simp)
        have hc := h2 c (by simp)
        refine ACalls.of_body Try.func34 rfl rfl rfl ?_
        simp only [Try.ntmps34, frOf]
        repeat' (first
            | (show DOps _ _ _ _ _ _ _ _ _ _ _; first
                | refine D.end ?_
                | refine D.val (.inl rfl) rfl rfl rfl ?_
                | refine D.leave rfl rfl rfl rfl ?_
                | refine D.val (Wants.take rfl rfl) rfl rfl rfl ?_
                | refine (D.indexAddr (.inl rfl) rfl rfl rfl rfl rfl rfl (by decide) (by simp) (rows_ne (k := 0) (by simp)) ?_)
                | refine (D.loadRow (.inl rfl) rfl rfl rfl rfl (ld_kid (l := [a, b, c]) (k := 0) (by simp)) ?_)
                | refine (D.loadRow (.inl rfl) rfl rfl rfl rfl (ld_kid (l := [a, b, c]) (k := 1) (by simp)) ?_)
                | refine (D.loadRow (.inl rfl) rfl rfl rfl rfl (ld_kid (l := [a, b, c]) (k := 2) (by simp)) ?_)
                | refine (D.callB (.inl rfl) rfl rfl rfl rfl rfl ha (ctx_noL G row F L a) rfl (fun _ => ?_) (fun _ => ?_))
                | refine (D.callB (.inl rfl) rfl rfl rfl rfl rfl hb (ctx_noL G row F L b) rfl (fun _ => ?_) (fun _ => ?_))
                | refine (D.callB (.inl rfl) rfl rfl rfl rfl rfl hc (ctx_noL G row F L c) rfl (fun _ => ?_) (fun _ => ?_))
                | refine D.cmp rfl (.inl rfl) rfl rfl rfl (fun _ => ?_) (fun _ => ?_)
                | refine D.valO (.inl rfl) rfl rfl rfl rfl ?_
                | refine D.build (.inl rfl) rfl rfl rfl rfl rfl rfl rfl ?_
                | refine D.buildSlice (.inl rfl) rfl rfl rfl rfl rfl rfl rfl rfl rfl ?_
                | refine (D.indexAddr (Wants.take rfl rfl) rfl rfl rfl rfl rfl rfl (by decide) (by simp) (rows_ne (k := 0) (by simp)) ?_)
                | refine (D.loadRow (Wants.take rfl rfl) rfl rfl rfl rfl (ld_kid (l := [a, b, c]) (k := 0) (by simp)) ?_)
                | refine (D.loadRow (Wants.take rfl rfl) rfl rfl rfl rfl (ld_kid (l := [a, b, c]) (k := 1) (by simp)) ?_)
                | refine (D.loadRow (Wants.take rfl rfl) rfl rfl rfl rfl (ld_kid (l := [a, b, c]) (k := 2) (by simp)) ?_)
                | refine (D.callB (Wants.take rfl rfl) rfl rfl rfl rfl rfl ha (ctx_noL G row F L a) rfl (fun _ => ?_) (fun _ => ?_))
                | refine (D.callB (Wants.take rfl rfl) rfl rfl rfl rfl rfl hb (ctx_noL G row F L b) rfl (fun _ => ?_) (fun _ => ?_))
                | refine (D.callB (Wants.take rfl rfl) rfl rfl rfl rfl rfl hc (ctx_noL G row F L c) rfl (fun _ => ?_) (fun _ => ?_))
                | refine D.cmp rfl (Wants.take rfl rfl) rfl rfl rfl (fun _ => ?_) (fun _ => ?_)
                | refine D.valO (Wants.take rfl rfl) rfl rfl rfl rfl ?_
                | refine D.build (Wants.take rfl rfl) rfl rfl rfl rfl rfl rfl rfl ?_
                | refine D.buildSlice (Wants.take rfl rfl) rfl rfl rfl rfl rfl rfl rfl rfl rfl ?_)
            | (show AOps _ _ _ _ _ _; first
                | refine AOps.nil ?_
                | refine AOps.plain rfl (W.pure rfl rfl rfl ?_)
                | refine AOps.plain rfl (W.callB rfl rfl rfl rfl rfl (plain_ok 28 o n s ns [a, b, c] p _ _ _ _ M) rfl rfl (fun _ => ?_) (fun _ => ?_))
                | refine AOps.plain rfl (W.cmp rfl rfl rfl rfl (fun _ => ?_) (fun _ => ?_))
                | refine W.leave rfl rfl rfl rfl ?_
                | refine AOps.take rfl rfl (W.pure rfl rfl rfl ?_)
                | refine AOps.take rfl rfl (W.callB rfl rfl rfl rfl rfl (plain_ok 28 o n s ns [a, b, c] p _ _ _ _ M) rfl rfl (fun _ => ?_) (fun _ => ?_))
                | refine AOps.take rfl rfl (W.cmp rfl rfl rfl rfl (fun _ => ?_) (fun _ => ?_))
                | refine AOps.plain rfl (W.boxI rfl rfl rfl rfl rfl rfl ?_)
                | refine AOps.plain rfl (W.build rfl rfl rfl rfl rfl rfl rfl ?_)
                | refine AOps.plain rfl (W.alloc rfl rfl rfl rfl rfl ?_)
                | refine AOps.plain rfl (W.storeL rfl rfl rfl rfl rfl rfl rfl rfl rfl ?_)
                | refine AOps.plain rfl (W.buildSlice rfl rfl rfl rfl rfl rfl rfl rfl rfl ?_))
            | (show AWp _ _ _ _ _; first
                | refine AWp.seq ?_
                | refine AWp.region ?_
                | refine AWp.condT rfl ?_
                | refine AWp.condF rfl ?_
                | refine AWp.skip ?_
                | refine AWp.block ?_
                | refine AWp.exit ?_
                | refine AWp.ret ?_
                | refine AWp.draw0 (by kernel_rfl) ?_)
            | refine AThen.normal ?_
            | refine AThen.exit ?_
            | refine AThen.ret ?_
            | refine AThen.pan ?_
            | refine AInBlock.pan ?_
            | refine AInBlock.normal ?_
            | refine AInBlock.ret ?_
            | refine AInBlock.same ?_
            | refine AInBlock.other rfl ?_)
        all_goals refine bodyQ.one rfl rfl rfl ⟨?_, rfl⟩
        all_goals (clear he h1 h2 h47 hsm ha hb hc; simp [cstmtT, cifT, nothing, *])
    · have hne : ((ks.length : Int) == 3) = false := by rw [beq_eq_false_iff_ne]; omega
      have hif : cifT G L F ks = false := by
        match ks, hl with
        | [], _ => rfl
        | [_], _ => rfl
        | [_, _], _ => rfl
        | [_, _, _], hl => exact absurd rfl hl
        | _ :: _ :: _ :: _ :: _, _ => rfl
      refine ACalls.of_body Try.func34 rfl rfl rfl ?_
      simp only [Try.ntmps34, frOf]
      repeat' (first
          | (show DOps _ _ _ _ _ _ _ _ _ _ _; first
              | refine D.end ?_
              | refine D.val (.inl rfl) rfl rfl rfl ?_
              | refine D.leave rfl rfl rfl rfl ?_
              | refine D.val (Wants.take rfl rfl) rfl rfl rfl ?_
              | refine (D.cmpF rfl (.inl rfl) rfl rfl rfl (hne) ?_)
              | refine D.cmp rfl (.inl rfl) rfl rfl rfl (fun _ => ?_) (fun _ => ?_)
              | refine D.valO (.inl rfl) rfl rfl rfl rfl ?_
              | refine D.build (.inl rfl) rfl rfl rfl rfl rfl rfl rfl ?_
              | refine D.buildSlice (.inl rfl) rfl rfl rfl rfl rfl rfl rfl rfl rfl ?_
              | refine (D.cmpF rfl (Wants.take rfl rfl) rfl rfl rfl (hne) ?_)
              | refine D.cmp rfl (Wants.take rfl rfl) rfl rfl rfl (fun _ => ?_) (fun _ => ?_)
              | refine D.valO (Wants.take rfl rfl) rfl rfl rfl rfl ?_
              | refine D.build (Wants.take rfl rfl) rfl rfl rfl rfl rfl rfl rfl ?_
              | refine D.buildSlice (Wants.take rfl rfl) rfl rfl rfl rfl rfl rfl rfl rfl rfl ?_)
          | (show AOps _ _ _ _ _ _; first
              | refine AOps.nil ?_
              | refine AOps.plain rfl (W.pure rfl rfl rfl ?_)
              | refine AOps.plain rfl (W.callB rfl rfl rfl rfl rfl (plain_ok 28 o n s ns ks p _ _ _ _ M) rfl rfl (fun _ => ?_) (fun _ => ?_))
              | refine AOps.plain rfl (W.cmpF rfl rfl rfl rfl (hne) ?_)
              | refine AOps.plain rfl (W.cmp rfl rfl rfl rfl (fun _ => ?_) (fun _ => ?_))
              | refine W.leave rfl rfl rfl rfl ?_
              | refine AOps.take rfl rfl (W.pure rfl rfl rfl ?_)
              | refine AOps.take rfl rfl (W.callB rfl rfl rfl rfl rfl (plain_ok 28 o n s ns ks p _ _ _ _ M) rfl rfl (fun _ => ?_) (fun _ => ?_))
              | refine AOps.take rfl rfl (W.cmpF rfl rfl rfl rfl (hne) ?_)
              | refine AOps.take rfl rfl (W.cmp rfl rfl rfl rfl (fun _ => ?_) (fun _ => ?_))
              | refine AOps.plain rfl (W.boxI rfl rfl rfl rfl rfl rfl ?_)
              | refine AOps.plain rfl (W.build rfl rfl rfl rfl rfl rfl rfl ?_)
              | refine AOps.plain rfl (W.alloc rfl rfl rfl rfl rfl ?_)
              | refine AOps.plain rfl (W.storeL rfl rfl rfl rfl rfl rfl rfl rfl rfl ?_)
              | refine AOps.plain rfl (W.buildSlice rfl rfl rfl rfl rfl rfl rfl rfl rfl ?_))
          | (show AWp _ _ _ _ _; first
              | refine AWp.seq ?_
              | refine AWp.region ?_
              | refine AWp.condT rfl ?_
              | refine AWp.condF rfl ?_
              | refine AWp.skip ?_
              | refine AWp.block ?_
              | refine AWp.exit ?_
              | refine AWp.ret ?_
              | refine AWp.draw0 (by kernel_rfl) ?_)
          | refine AThen.normal ?_
          | refine AThen.exit ?_
          | refine AThen.ret ?_
          | refine AThen.pan ?_
          | refine AInBlock.pan ?_
          | refine AInBlock.normal ?_
          | refine AInBlock.ret ?_
          | refine AInBlock.same ?_
          | refine AInBlock.other rfl ?_)
      all_goals refine bodyQ.one rfl rfl rfl ⟨?_, rfl⟩
      all_goals (clear he h1 h2 h47 hsm; simp [cstmtT, nothing, *])
  · by_cases hk30 : k = 30
    · subst hk30
      by_cases hl : ks.length = 2
      · match ks, hl with
        | [a, b], _ =>
          have ha := h1 a (by simp)
          have hb := h2 b (by simp)
          refine ACalls.of_body Try.func34 rfl rfl rfl ?_
          simp only [Try.ntmps34, frOf]
          repeat' (first
              | (show DOps _ _ _ _ _ _ _ _ _ _ _; first
                  | refine D.end ?_
                  | refine D.val (.inl rfl) rfl rfl rfl ?_
                  | refine D.leave rfl rfl rfl rfl ?_
                  | refine D.val (Wants.take rfl rfl) rfl rfl rfl ?_
                  | refine (D.indexAddr (.inl rfl) rfl rfl rfl rfl rfl rfl (by decide) (by simp) (rows_ne (k := 0) (by simp)) ?_)
                  | refine (D.loadRow (.inl rfl) rfl rfl rfl rfl (ld_kid (l := [a, b]) (k := 0) (by simp)) ?_)
                  | refine (D.loadRow (.inl rfl) rfl rfl rfl rfl (ld_kid (l := [a, b]) (k := 1) (by simp)) ?_)
                  | refine (D.callB (.inl rfl) rfl rfl rfl rfl rfl ha (ctx_noL G row F L a) rfl (fun _ => ?_) (fun _ => ?_))
                  | refine (D.callB (.inl rfl) rfl rfl rfl rfl rfl hb (ctx_noL G row F L b) rfl (fun _ => ?_) (fun _ => ?_))
                  | refine D.cmp rfl (.inl rfl) rfl rfl rfl (fun _ => ?_) (fun _ => ?_)
                  | refine D.valO (.inl rfl) rfl rfl rfl rfl ?_
                  | refine D.build (.inl rfl) rfl rfl rfl rfl rfl rfl rfl ?_
                  | refine D.buildSlice (.inl rfl) rfl rfl rfl rfl rfl rfl rfl rfl rfl ?_
                  | refine (D.indexAddr (Wants.take rfl rfl) rfl rfl rfl rfl rfl rfl (by decide) (by simp) (rows_ne (k := 0) (by simp)) ?_)
                  | refine (D.loadRow (Wants.take rfl rfl) rfl rfl rfl rfl (ld_kid (l := [a, b]) (k := 0) (by simp)) ?_)
                  | refine (D.loadRow (Wants.take rfl rfl) rfl rfl rfl rfl (ld_kid (l := [a, b]) (k := 1) (by simp)) ?_)
                  | refine (D.callB (Wants.take rfl rfl) rfl rfl rfl rfl rfl ha (ctx_noL G row F L a) rfl (fun _ => ?_) (fun _ => ?_))
                  | refine (D.callB (Wants.take rfl rfl) rfl rfl rfl rfl rfl hb (ctx_noL G row F L b) rfl (fun _ => ?_) (fun _ => ?_))
                  | refine D.cmp rfl (Wants.take rfl rfl) rfl rfl rfl (fun _ => ?_) (fun _ => ?_)
                  | refine D.valO (Wants.take rfl rfl) rfl rfl rfl rfl ?_
                  | refine D.build (Wants.take rfl rfl) rfl rfl rfl rfl rfl rfl rfl ?_
                  | refine D.buildSlice (Wants.take rfl rfl) rfl rfl rfl rfl rfl rfl rfl rfl rfl ?_)
              | (show AOps _ _ _ _ _ _; first
                  | refine AOps.nil ?_
                  | refine AOps.plain rfl (W.pure rfl rfl rfl ?_)
                  | refine AOps.plain rfl (W.callB rfl rfl rfl rfl rfl (plain_ok 30 o n s ns [a, b] p _ _ _ _ M) rfl rfl (fun _ => ?_) (fun _ => ?_))
                  | refine AOps.plain rfl (W.cmp rfl rfl rfl rfl (fun _ => ?_) (fun _ => ?_))
                  | refine W.leave rfl rfl rfl rfl ?_
                  | refine AOps.take rfl rfl (W.pure rfl rfl rfl ?_)
                  | refine AOps.take rfl rfl (W.callB rfl rfl rfl rfl rfl (plain_ok 30 o n s ns [a, b] p _ _ _ _ M) rfl rfl (fun _ => ?_) (fun _ => ?_))
                  | refine AOps.take rfl rfl (W.cmp rfl rfl rfl rfl (fun _ => ?_) (fun _ => ?_))
                  | refine AOps.plain rfl (W.boxI rfl rfl rfl rfl rfl rfl ?_)
                  | refine AOps.plain rfl (W.build rfl rfl rfl rfl rfl rfl rfl ?_)
                  | refine AOps.plain rfl (W.alloc rfl rfl rfl rfl rfl ?_)
                  | refine AOps.plain rfl (W.storeL rfl rfl rfl rfl rfl rfl rfl rfl rfl ?_)
                  | refine AOps.plain rfl (W.buildSlice rfl rfl rfl rfl rfl rfl rfl rfl rfl ?_))
              | (show AWp _ _ _ _ _; first
                  | refine AWp.seq ?_
                  | refine AWp.region ?_
                  | refine AWp.condT rfl ?_
                  | refine AWp.condF rfl ?_
                  | refine AWp.skip ?_
                  | refine AWp.block ?_
                  | refine AWp.exit ?_
                  | refine AWp.ret ?_
                  | refine AWp.draw0 (by kernel_rfl) ?_)
              | refine AThen.normal ?_
              | refine AThen.exit ?_
              | refine AThen.ret ?_
              | refine AThen.pan ?_
              | refine AInBlock.pan ?_
              | refine AInBlock.normal ?_
              | refine AInBlock.ret ?_
              | refine AInBlock.same ?_
              | refine AInBlock.other rfl ?_)
          all_goals refine bodyQ.one rfl rfl rfl ⟨?_, rfl⟩
          all_goals (clear he h1 h2 h47 hsm ha hb; simp [cstmtT, cwhileT, nothing, *])
      · have hne : ((ks.length : Int) == 2) = false := by rw [beq_eq_false_iff_ne]; omega
        have hif : cwhileT G L F ks = false := by
          match ks, hl with
          | [], _ => rfl
          | [_], _ => rfl
          | [_, _], hl => exact absurd rfl hl
          | _ :: _ :: _ :: _, _ => rfl
        refine ACalls.of_body Try.func34 rfl rfl rfl ?_
        simp only [Try.ntmps34, frOf]
        repeat' (first
            | (show DOps _ _ _ _ _ _ _ _ _ _ _; first
                | refine D.end ?_
                | refine D.val (.inl rfl) rfl rfl rfl ?_
                | refine D.leave rfl rfl rfl rfl ?_
                | refine D.val (Wants.take rfl rfl) rfl rfl rfl ?_
                | refine (D.cmpF rfl (.inl rfl) rfl rfl rfl (hne) ?_)
                | refine D.cmp rfl (.inl rfl) rfl rfl rfl (fun _ => ?_) (fun _ => ?_)
                | refine D.valO (.inl rfl) rfl rfl rfl rfl ?_
                | refine D.build (.inl rfl) rfl rfl rfl rfl rfl rfl rfl ?_
                | refine D.buildSlice (.inl rfl) rfl rfl rfl rfl rfl rfl rfl rfl rfl ?_
                | refine (D.cmpF rfl (Wants.take rfl rfl) rfl rfl rfl (hne) ?_)
                | refine D.cmp rfl (Wants.take rfl rfl) rfl rfl rfl (fun _ => ?_) (fun _ => ?_)
                | refine D.valO (Wants.take rfl rfl) rfl rfl rfl rfl ?_
                | refine D.build (Wants.take rfl rfl) rfl rfl rfl rfl rfl rfl rfl ?_
                | refine D.buildSlice (Wants.take rfl rfl) rfl rfl rfl rfl rfl rfl rfl rfl rfl ?_)
            | (show AOps _ _ _ _ _ _; first
                | refine AOps.nil ?_
                | refine AOps.plain rfl (W.pure rfl rfl rfl ?_)
                | refine AOps.plain rfl (W.callB rfl rfl rfl rfl rfl (plain_ok 30 o n s ns ks p _ _ _ _ M) rfl rfl (fun _ => ?_) (fun _ => ?_))
                | refine AOps.plain rfl (W.cmpF rfl rfl rfl rfl (hne) ?_)
                | refine AOps.plain rfl (W.cmp rfl rfl rfl rfl (fun _ => ?_) (fun _ => ?_))
                | refine W.leave rfl rfl rfl rfl ?_
                | refine AOps.take rfl rfl (W.pure rfl rfl rfl ?_)
                | refine AOps.take rfl rfl (W.callB rfl rfl rfl rfl rfl (plain_ok 30 o n s ns ks p _ _ _ _ M) rfl rfl (fun _ => ?_) (fun _ => ?_))
                | refine AOps.take rfl rfl (W.cmpF rfl rfl rfl rfl (hne) ?_)
                | refine AOps.take rfl rfl (W.cmp rfl rfl rfl rfl (fun _ => ?_) (fun _ => ?_))
                | refine AOps.plain rfl (W.boxI rfl rfl rfl rfl rfl rfl ?_)
                | refine AOps.plain rfl (W.build rfl rfl rfl rfl rfl rfl rfl ?_)
                | refine AOps.plain rfl (W.alloc rfl rfl rfl rfl rfl ?_)
                | refine AOps.plain rfl (W.storeL rfl rfl rfl rfl rfl rfl rfl rfl rfl ?_)
                | refine AOps.plain rfl (W.buildSlice rfl rfl rfl rfl rfl rfl rfl rfl rfl ?_))
            | (show AWp _ _ _ _ _; first
                | refine AWp.seq ?_
                | refine AWp.region ?_
                | refine AWp.condT rfl ?_
                | refine AWp.condF rfl ?_
                | refine AWp.skip ?_
                | refine AWp.block ?_
                | refine AWp.exit ?_
                | refine AWp.ret ?_
                | refine AWp.draw0 (by kernel_rfl) ?_)
            | refine AThen.normal ?_
            | refine AThen.exit ?_
            | refine AThen.ret ?_
            | refine AThen.pan ?_
            | refine AInBlock.pan ?_
            | refine AInBlock.normal ?_
            | refine AInBlock.ret ?_
            | refine AInBlock.same ?_
            | refine AInBlock.other rfl ?_)
        all_goals refine bodyQ.one rfl rfl rfl ⟨?_, rfl⟩
        all_goals (clear he h1 h2 h47 hsm; simp [cstmtT, nothing, *])
    · have e28 : (k == 28) = false := by rw [beq_eq_false_iff_ne]; exact hk28
      have e30 : (k == 30) = false := by rw [beq_eq_false_iff_ne]; exact hk30
      refine ACalls.of_body Try.func34 rfl rfl rfl ?_
      simp only [Try.ntmps34, frOf]
      repeat' (first
          | (show DOps _ _ _ _ _ _ _ _ _ _ _; first
              | refine D.end ?_
              | refine D.val (.inl rfl) rfl rfl rfl ?_
              | refine D.leave rfl rfl rfl rfl ?_
              | refine D.val (Wants.take rfl rfl) rfl rfl rfl ?_
              | refine (D.cmpF rfl (.inl rfl) rfl rfl rfl (e28) ?_)
              | refine (D.cmpF rfl (.inl rfl) rfl rfl rfl (e30) ?_)
              | refine D.cmp rfl (.inl rfl) rfl rfl rfl (fun _ => ?_) (fun _ => ?_)
              | refine D.valO (.inl rfl) rfl rfl rfl rfl ?_
              | refine D.build (.inl rfl) rfl rfl rfl rfl rfl rfl rfl ?_
              | refine D.buildSlice (.inl rfl) rfl rfl rfl rfl rfl rfl rfl rfl rfl ?_
              | refine (D.cmpF rfl (Wants.take rfl rfl) rfl rfl rfl (e28) ?_)
              | refine (D.cmpF rfl (Wants.take rfl rfl) rfl rfl rfl (e30) ?_)
              | refine D.cmp rfl (Wants.take rfl rfl) rfl rfl rfl (fun _ => ?_) (fun _ => ?_)
              | refine D.valO (Wants.take rfl rfl) rfl rfl rfl rfl ?_
              | refine D.build (Wants.take rfl rfl) rfl rfl rfl rfl rfl rfl rfl ?_
              | refine D.buildSlice (Wants.take rfl rfl) rfl rfl rfl rfl rfl rfl rfl rfl rfl ?_)
          | (show AOps _ _ _ _ _ _; first
              | refine AOps.nil ?_
              | refine AOps.plain rfl (W.pure rfl rfl rfl ?_)
              | refine AOps.plain rfl (W.callB rfl rfl rfl rfl rfl (plain_ok k o n s ns ks p _ _ _ _ M) rfl rfl (fun _ => ?_) (fun _ => ?_))
              | refine AOps.plain rfl (W.callB rfl rfl rfl rfl rfl (he _ _) rfl rfl (fun _ => ?_) (fun _ => ?_))
              | refine AOps.plain rfl (W.callB rfl rfl rfl rfl rfl (h47) rfl rfl (fun _ => ?_) (fun _ => ?_))
              | refine AOps.plain rfl (W.cmpF rfl rfl rfl rfl (e28) ?_)
              | refine AOps.plain rfl (W.cmpF rfl rfl rfl rfl (e30) ?_)
              | refine AOps.plain rfl (W.cmp rfl rfl rfl rfl (fun _ => ?_) (fun _ => ?_))
              | refine W.leave rfl rfl rfl rfl ?_
              | refine AOps.take rfl rfl (W.pure rfl rfl rfl ?_)
              | refine AOps.take rfl rfl (W.callB rfl rfl rfl rfl rfl (plain_ok k o n s ns ks p _ _ _ _ M) rfl rfl (fun _ => ?_) (fun _ => ?_))
              | refine AOps.take rfl rfl (W.callB rfl rfl rfl rfl rfl (he _ _) rfl rfl (fun _ => ?_) (fun _ => ?_))
              | refine AOps.take rfl rfl (W.callB rfl rfl rfl rfl rfl (h47) rfl rfl (fun _ => ?_) (fun _ => ?_))
              | refine AOps.take rfl rfl (W.cmpF rfl rfl rfl rfl (e28) ?_)
              | refine AOps.take rfl rfl (W.cmpF rfl rfl rfl rfl (e30) ?_)
              | refine AOps.take rfl rfl (W.cmp rfl rfl rfl rfl (fun _ => ?_) (fun _ => ?_))
              | refine AOps.plain rfl (W.boxI rfl rfl rfl rfl rfl rfl ?_)
              | refine AOps.plain rfl (W.build rfl rfl rfl rfl rfl rfl rfl ?_)
              | refine AOps.plain rfl (W.alloc rfl rfl rfl rfl rfl ?_)
              | refine AOps.plain rfl (W.storeL rfl rfl rfl rfl rfl rfl rfl rfl rfl ?_)
              | refine AOps.plain rfl (W.buildSlice rfl rfl rfl rfl rfl rfl rfl rfl rfl ?_))
          | (show AWp _ _ _ _ _; first
              | refine AWp.seq ?_
              | refine AWp.region ?_
              | refine AWp.condT rfl ?_
              | refine AWp.condF rfl ?_
              | refine AWp.skip ?_
              | refine AWp.block ?_
              | refine AWp.exit ?_
              | refine AWp.ret ?_
              | refine AWp.draw0 (by kernel_rfl) ?_)
          | refine AThen.normal ?_
          | refine AThen.exit ?_
          | refine AThen.ret ?_
          | refine AThen.pan ?_
          | refine AInBlock.pan ?_
          | refine AInBlock.normal ?_
          | refine AInBlock.ret ?_
          | refine AInBlock.same ?_
          | refine AInBlock.other rfl ?_)
      all_goals refine bodyQ.one rfl rfl rfl ⟨?_, rfl⟩
      all_goals (clear he h1 h2 h47 hsm; simp [cstmtT, nothing, *])

theorem unit_all (G : Int) (row : List CV) (F : Nat) (L : Int) (t : Tree) : t.small →
    Ans 48 [.agg (ctxC G row F L), t.cv] (.bool (cexprT G L F t)) ∧ Ans 34 [.agg (ctxC G row F L), t.cv] (.bool (cstmtT G L F t)) ∧ Ans 49 [.agg (ctxC G row F L), t.cv] (.bool (cblockT G L F t)) := by
  induction t using Tree.ind with
  | h k o n s ns ks p ih =>
    intro hsm
    have he : ∀ M lo hi, ACalls 46 [.agg (ctxC G row F L), .islice (rows ks) ks.length, .int .i64 lo, .int .i64 hi] M (fun r M' => r = .ret (.bool (manyU ks lo hi && callE G L F ks)) ∧ M' = M) :=
      fun M lo hi => by rw [callE_all]; exact cexprs_ok G row F L (cexprT G L F) ks lo hi M hsm.2.2.1 (fun t ht => (ih t ht (smalls_mem hsm.2.2.2.2 ht)).1 M)
    have hst : ∀ M, ACalls 24 [.agg (ctxC G row F L), .islice (rows ks) ks.length] M (fun r M' => r = .ret (.bool (decide ((ks.length : Int) ≤ 40) && ks.all (cstmtT G L F))) ∧ M' = M) :=
      fun M => cstmts_ok G row F L (cstmtT G L F) ks M hsm.2.2.1 (fun t ht => (ih t ht (smalls_mem hsm.2.2.2.2 ht)).2.1 M)
    refine ⟨fun M => cexpr1_ok G row F L k o n s ns ks p M hsm (he M),
      fun M => cstmt1_ok G row F L k o n s ns ks p M hsm (he M) (fun t ht => (ih t ht (smalls_mem hsm.2.2.2.2 ht)).1) (fun t ht => (ih t ht (smalls_mem hsm.2.2.2.2 ht)).2.2), fun M => ?_⟩
    have hb := cblock_ok G row F L (cstmtT G L F) k o n s ns ks p M (hst M)
    simp only [cblockT, callS_all]
    exact hb

end Go.Proofs.Ytceocfancfjdjaa
/- A checker is built. No condition. -/
namespace Go.Proofs.Ytceocfancfjdjaa
open Go Go.RowKit

theorem zfo56 : (Try.prog.info? 56).map (·.zero) = some (some (.agg #[.int .i64 0, .slice none 0 0, .int .i64 0])) := by kernel_rfl

def place56 : Nat → Option (Nat × Nat) := fun x => [(0, 2), (2, 1)][x]?

section
variable {n : Nat} {Q : APost} {o : Oper} {K : AS → Prop} {fr : List (Nat × CV)} {loc : List (Nat × AObj)} {M : List AObj} {ds : List CV} {d : Nat}

theorem W.build56 {ps : Array (Nat × Operand)} {cs' : List CV} (ho : o.op = .build 56 ps)
    (hfl : flats (parts { fr := fr, loc := loc, M := M, ds := ds } ps) = true) (hfill : fillC place56 [.int .i64 0, .nilslice, .int .i64 0] (parts { fr := fr, loc := loc, M := M, ds := ds } ps) = some cs')
    (hdst : o.dst = some d) (hd : Nat.blt d n = true) (k : K { fr := (d, .agg cs') :: fr, loc := loc, M := M, ds := ds }) : AOp Try.prog n o K Q { fr := fr, loc := loc, M := M, ds := ds } := by
  intro ρ w a hs
  have hzr := zero_of_info zfo56
  have hp := parts_rel hs ps hfl (fun p => (p.1, a.eval p.2)) (fun _ => rfl)
  obtain ⟨cells, h1, h2⟩ := fill_rel place56 _ _ [.int .i64 0, .nilslice, .int .i64 0] cs' #[.int .i64 0, .slice none 0 0, .int .i64 0] hp.1 hp.2
    (VL.lits [.int .i64 0, .slice none 0 0, .int .i64 0]) hfill
  unfold Oper.wp
  have hb : (Instr.build 56 (ps.map fun p => (p.1, a.eval p.2))).run Try.prog w = .ok (.agg cells) w := by
    have hf := h1
    unfold place56 at hf
    rw [Array.toList_map] at hf
    simp [Instr.build, hzr, run_underlying Try.underlying56, size_of_info info32, size_of_info info3, Value.cells, hf]
  have hr : (execOp a.eval o).run Try.prog w = .ok (.value (.agg cells)) w := by
    simp only [execOp, ho]
    rw [Sem.run_bind, hb]
    rfl
  rw [hr]
  refine ⟨_, ρ, k, ?_, (Evol.refl ρ _ w).put (some d) (.agg cs')⟩
  rw [hdst]
  exact hs.put (d := some d) hd (.agg cs' cells (by simpa using h2.1) (fun j c v hc hv => h2.2 j c v hc (by simpa using hv)))

end
end Go.Proofs.Ytceocfancfjdjaa
/- (D) The test of a unit: a right one is found right. No condition. -/
namespace Go.Proofs.Ytceocfancfjdjaa
open Go Go.RowKit
attribute [local irreducible] ACalls AOps AOp AWp AWpL AThen AInBlock bodyQ seq DOps

/-- A function that may be. -/
def FnR.may (G F : Int) (f : FnR) : Prop := ∃ l, f.body = some l ∧ smalls l ∧ l.length < 281474976710656 ∧ (∀ t, t ∈ l → lowT t 12 = true) ∧ 0 ≤ f.params ∧ f.params ≤ 6 ∧ f.params ≤ f.locals ∧ f.locals ≤ 24 ∧
  (l.length : Int) ≤ 40 ∧ l.all (cstmtT G f.locals F) = true

set_option maxHeartbeats 8000000 in
theorem scopeCheck_ok (G : Int) (f0 : FnR) (fs : List FnR) (hG0 : 0 ≤ G) (hG1 : G ≤ 24) (hlen : (f0 :: fs).length ≤ 32) (hf0 : f0.params = 0 ∧ f0.locals = 0) (hmay : ∀ f, f ∈ f0 :: fs → f.may G ((f0 :: fs).length : Nat)) :
    Ans 11 [unitCV (G, f0 :: fs)] (.int .i64 0) := by
  intro M
  obtain ⟨us, hus⟩ : ∃ us, us = f0 :: fs := ⟨_, rfl⟩
  have hp0 : ld 3 (fcells us) ((0 : Int).toNat * 3 + 0) = some (.int .i64 0) := by
    obtain ⟨a, b, c⟩ := f0
    obtain ⟨h1, h2⟩ := hf0
    simp only at h1 h2
    subst h1; subst h2
    rw [hus]; rfl
  have hp1 : ld 3 (fcells us) ((0 : Int).toNat * 3 + 1) = some (.int .i64 0) := by
    obtain ⟨a, b, c⟩ := f0
    obtain ⟨h1, h2⟩ := hf0
    simp only at h1 h2
    subst h1; subst h2
    rw [hus]; rfl
  rw [← hus] at hlen hmay ⊢
  have hpos : 0 < us.length := by rw [hus]; simp
  clear hus hf0
  have he0 : ((us.length : Int) == 0) = false := by rw [beq_eq_false_iff_ne]; omega
  refine ACalls.of_body Try.func11 rfl rfl rfl ?_
  simp only [Try.ntmps11, frOf]
  repeat' (first
      | (show DOps _ _ _ _ _ _ _ _ _ _ _; first
          | refine D.end ?_
          | refine D.val (.inl rfl) rfl rfl rfl ?_
          | refine D.leave rfl rfl rfl rfl ?_
          | refine D.val (Wants.take rfl rfl) rfl rfl rfl ?_
          | refine D.cmp rfl (.inl rfl) rfl rfl rfl (fun _ => ?_) (fun _ => ?_)
          | refine D.valO (.inl rfl) rfl rfl rfl rfl ?_
          | refine D.build (.inl rfl) rfl rfl rfl rfl rfl rfl rfl ?_
          | refine D.buildSlice (.inl rfl) rfl rfl rfl rfl rfl rfl rfl rfl rfl ?_
          | refine D.cmp rfl (Wants.take rfl rfl) rfl rfl rfl (fun _ => ?_) (fun _ => ?_)
          | refine D.valO (Wants.take rfl rfl) rfl rfl rfl rfl ?_
          | refine D.build (Wants.take rfl rfl) rfl rfl rfl rfl rfl rfl rfl ?_
          | refine D.buildSlice (Wants.take rfl rfl) rfl rfl rfl rfl rfl rfl rfl rfl rfl ?_)
      | (show AOps _ _ _ _ _ _; first
          | refine AOps.nil ?_
          | refine AOps.plain rfl (W.pure rfl rfl rfl ?_)
          | refine AOps.plain rfl (W.cmp rfl rfl rfl rfl (fun _ => ?_) (fun _ => ?_))
          | refine W.leave rfl rfl rfl rfl ?_
          | refine AOps.take rfl rfl (W.pure rfl rfl rfl ?_)
          | refine AOps.take rfl rfl (W.cmp rfl rfl rfl rfl (fun _ => ?_) (fun _ => ?_))
          | refine AOps.plain rfl (W.boxI rfl rfl rfl rfl rfl rfl ?_)
          | refine AOps.plain rfl (W.build rfl rfl rfl rfl rfl rfl rfl ?_)
          | refine AOps.plain rfl (W.alloc rfl rfl rfl rfl rfl ?_)
          | refine AOps.plain rfl (W.storeL rfl rfl rfl rfl rfl rfl rfl rfl rfl ?_)
          | refine AOps.plain rfl (W.buildSlice rfl rfl rfl rfl rfl rfl rfl rfl rfl ?_))
      | (show AWp _ _ _ _ _; first
          | refine AWp.seq ?_
          | refine AWp.region ?_
          | refine AWp.condT rfl ?_
          | refine AWp.condF rfl ?_
          | refine AWp.skip ?_
          | refine AWp.block ?_
          | refine AWp.exit ?_
          | refine AWp.ret ?_
          | refine AWp.draw0 (by kernel_rfl) ?_)
      | refine AThen.normal ?_
      | refine AThen.exit ?_
      | refine AThen.ret ?_
      | refine AThen.pan ?_
      | refine AInBlock.pan ?_
      | refine AInBlock.normal ?_
      | refine AInBlock.ret ?_
      | refine AInBlock.same ?_
      | refine AInBlock.other rfl ?_)
  refine AWp.loop ?_
  refine AWpL.upto (fun j st => ∃ fr, st = { fr := fr, loc := [], M := M, ds := [] } ∧ Sub fr [(1, .iptr [.int .i64 G, .islice (fcells us) us.length] 0), (8, .islice (fcells us) us.length), (9, .int .i64 (us.length : Int)), (10, .int .i64 (j : Int))])
    us.length ?_ 0 _ (Nat.zero_le _) ⟨_, rfl, rfl, rfl, rfl, rfl, trivial⟩
  rintro j st hj ⟨fr, rfl, hsub⟩ hnext
  refine AWp.mask hsub ?_
  clear hsub
  by_cases hlt : j < us.length
  · have hfn := ld_fn hlt
    obtain ⟨l, hl, hsm, hll, hlow, _⟩ := hmay us[j] (List.getElem_mem hlt)
    generalize us[j] = f at hfn hl
    obtain ⟨pa, lo, bo⟩ := f
    simp only at hl
    subst hl
    simp only [FnR.cells] at hfn
    have hany : l.any (fun t => !(lowT t 12)) = false := by
      rw [List.any_eq_false]
      intro t ht
      simp [hlow t ht]
    have hcall := containsN_ok 22 [] l (fun t => !(lowT t 12)) M rfl hll (fun t ht => high_ok t (smalls_mem hsm ht) M)
    rw [hany] at hcall
    clear hlow hany
    repeat' (first
        | (show DOps _ _ _ _ _ _ _ _ _ _ _; first
            | refine D.end ?_
            | refine D.val (.inl rfl) rfl rfl rfl ?_
            | refine D.leave rfl rfl rfl rfl ?_
            | refine D.val (Wants.take rfl rfl) rfl rfl rfl ?_
            | refine (D.cmpT rfl (.inl rfl) rfl rfl rfl (decide_eq_true (by omega)) ?_)
            | refine D.cmp rfl (.inl rfl) rfl rfl rfl (fun _ => ?_) (fun _ => ?_)
            | refine D.valO (.inl rfl) rfl rfl rfl rfl ?_
            | refine D.build (.inl rfl) rfl rfl rfl rfl rfl rfl rfl ?_
            | refine D.buildSlice (.inl rfl) rfl rfl rfl rfl rfl rfl rfl rfl rfl ?_
            | refine (D.cmpT rfl (Wants.take rfl rfl) rfl rfl rfl (decide_eq_true (by omega)) ?_)
            | refine D.cmp rfl (Wants.take rfl rfl) rfl rfl rfl (fun _ => ?_) (fun _ => ?_)
            | refine D.valO (Wants.take rfl rfl) rfl rfl rfl rfl ?_
            | refine D.build (Wants.take rfl rfl) rfl rfl rfl rfl rfl rfl rfl ?_
            | refine D.buildSlice (Wants.take rfl rfl) rfl rfl rfl rfl rfl rfl rfl rfl rfl ?_)
        | (show AOps _ _ _ _ _ _; first
            | refine AOps.nil ?_
            | refine AOps.plain rfl (W.pure rfl rfl rfl ?_)
            | refine AOps.plain rfl (W.cmpT rfl rfl rfl rfl (decide_eq_true (by omega)) ?_)
            | refine AOps.plain rfl (W.indexAddr rfl rfl rfl rfl rfl rfl (by omega) (by omega) (fcells_ne hlt) ?_)
            | refine AOps.plain rfl (W.loadRow rfl rfl rfl rfl hfn ?_)
            | refine AOps.plain rfl (W.callV rfl rfl rfl rfl rfl (hcall) rfl rfl rfl ?_)
            | refine AOps.plain rfl (W.cmp rfl rfl rfl rfl (fun _ => ?_) (fun _ => ?_))
            | refine W.leave rfl rfl rfl rfl ?_
            | refine AOps.take rfl rfl (W.pure rfl rfl rfl ?_)
            | refine AOps.take rfl rfl (W.cmpT rfl rfl rfl rfl (decide_eq_true (by omega)) ?_)
            | refine AOps.take rfl rfl (W.indexAddr rfl rfl rfl rfl rfl rfl (by omega) (by omega) (fcells_ne hlt) ?_)
            | refine AOps.take rfl rfl (W.loadRow rfl rfl rfl rfl hfn ?_)
            | refine AOps.take rfl rfl (W.callV rfl rfl rfl rfl rfl (hcall) rfl rfl rfl ?_)
            | refine AOps.take rfl rfl (W.cmp rfl rfl rfl rfl (fun _ => ?_) (fun _ => ?_))
            | refine AOps.plain rfl (W.boxI rfl rfl rfl rfl rfl rfl ?_)
            | refine AOps.plain rfl (W.build rfl rfl rfl rfl rfl rfl rfl ?_)
            | refine AOps.plain rfl (W.alloc rfl rfl rfl rfl rfl ?_)
            | refine AOps.plain rfl (W.storeL rfl rfl rfl rfl rfl rfl rfl rfl rfl ?_)
            | refine AOps.plain rfl (W.buildSlice rfl rfl rfl rfl rfl rfl rfl rfl rfl ?_))
        | (show AWp _ _ _ _ _; first
            | refine AWp.seq ?_
            | refine AWp.region ?_
            | refine AWp.condT rfl ?_
            | refine AWp.condF rfl ?_
            | refine AWp.skip ?_
            | refine AWp.block ?_
            | refine AWp.exit ?_
            | refine AWp.ret ?_
            | refine AWp.draw0 (by kernel_rfl) ?_)
        | refine AThen.normal ?_
        | refine AThen.exit ?_
        | refine AThen.ret ?_
        | refine AThen.pan ?_
        | refine AInBlock.pan ?_
        | refine AInBlock.normal ?_
        | refine AInBlock.ret ?_
        | refine AInBlock.same ?_
        | refine AInBlock.other rfl ?_)
    exact AWpL.fresh (fr' := [(1, .iptr [.int .i64 G, .islice (fcells us) us.length] 0), (8, .islice (fcells us) us.length), (9, .int .i64 (us.length : Int)), (10, .int .i64 ((j + 1 : Nat) : Int))])
        ⟨rfl, rfl, rfl, subInt (wrapAdd (by omega) (by omega)), trivial⟩ rfl (hnext.out _ hlt ⟨_, rfl, rfl, rfl, rfl, rfl, trivial⟩)
  · clear hnext
    repeat' (first
        | (show DOps _ _ _ _ _ _ _ _ _ _ _; first
            | refine D.end ?_
            | refine D.val (.inl rfl) rfl rfl rfl ?_
            | refine D.leave rfl rfl rfl rfl ?_
            | refine D.val (Wants.take rfl rfl) rfl rfl rfl ?_
            | refine (D.cmpF rfl (.inl rfl) rfl rfl rfl (decide_eq_false (by omega)) ?_)
            | refine (D.cmpF rfl (.inl rfl) rfl rfl rfl (he0) ?_)
            | refine D.cmp rfl (.inl rfl) rfl rfl rfl (fun _ => ?_) (fun _ => ?_)
            | refine D.valO (.inl rfl) rfl rfl rfl rfl ?_
            | refine D.build (.inl rfl) rfl rfl rfl rfl rfl rfl rfl ?_
            | refine D.buildSlice (.inl rfl) rfl rfl rfl rfl rfl rfl rfl rfl rfl ?_
            | refine (D.cmpF rfl (Wants.take rfl rfl) rfl rfl rfl (decide_eq_false (by omega)) ?_)
            | refine (D.cmpF rfl (Wants.take rfl rfl) rfl rfl rfl (he0) ?_)
            | refine D.cmp rfl (Wants.take rfl rfl) rfl rfl rfl (fun _ => ?_) (fun _ => ?_)
            | refine D.valO (Wants.take rfl rfl) rfl rfl rfl rfl ?_
            | refine D.build (Wants.take rfl rfl) rfl rfl rfl rfl rfl rfl rfl ?_
            | refine D.buildSlice (Wants.take rfl rfl) rfl rfl rfl rfl rfl rfl rfl rfl rfl ?_)
        | (show AOps _ _ _ _ _ _; first
            | refine AOps.nil ?_
            | refine AOps.plain rfl (W.pure rfl rfl rfl ?_)
            | refine AOps.plain rfl (W.cmpF rfl rfl rfl rfl (decide_eq_false (by omega)) ?_)
            | refine AOps.plain rfl (W.cmpF rfl rfl rfl rfl (he0) ?_)
            | refine AOps.plain rfl (W.indexAddr rfl rfl rfl rfl rfl rfl (by decide) (by omega) (fcells_ne hpos) ?_)
            | refine AOps.plain rfl (W.loadRow rfl rfl rfl rfl hp0 ?_)
            | refine AOps.plain rfl (W.loadRow rfl rfl rfl rfl hp1 ?_)
            | refine AOps.plain rfl (W.cmp rfl rfl rfl rfl (fun _ => ?_) (fun _ => ?_))
            | refine W.leave rfl rfl rfl rfl ?_
            | refine AOps.take rfl rfl (W.pure rfl rfl rfl ?_)
            | refine AOps.take rfl rfl (W.cmpF rfl rfl rfl rfl (decide_eq_false (by omega)) ?_)
            | refine AOps.take rfl rfl (W.cmpF rfl rfl rfl rfl (he0) ?_)
            | refine AOps.take rfl rfl (W.indexAddr rfl rfl rfl rfl rfl rfl (by decide) (by omega) (fcells_ne hpos) ?_)
            | refine AOps.take rfl rfl (W.loadRow rfl rfl rfl rfl hp0 ?_)
            | refine AOps.take rfl rfl (W.loadRow rfl rfl rfl rfl hp1 ?_)
            | refine AOps.take rfl rfl (W.cmp rfl rfl rfl rfl (fun _ => ?_) (fun _ => ?_))
            | refine AOps.plain rfl (W.boxI rfl rfl rfl rfl rfl rfl ?_)
            | refine AOps.plain rfl (W.build rfl rfl rfl rfl rfl rfl rfl ?_)
            | refine AOps.plain rfl (W.alloc rfl rfl rfl rfl rfl ?_)
            | refine AOps.plain rfl (W.storeL rfl rfl rfl rfl rfl rfl rfl rfl rfl ?_)
            | refine AOps.plain rfl (W.buildSlice rfl rfl rfl rfl rfl rfl rfl rfl rfl ?_))
        | (show AWp _ _ _ _ _; first
            | refine AWp.seq ?_
            | refine AWp.region ?_
            | refine AWp.condT rfl ?_
            | refine AWp.condF rfl ?_
            | refine AWp.skip ?_
            | refine AWp.block ?_
            | refine AWp.exit ?_
            | refine AWp.ret ?_
            | refine AWp.draw0 (by kernel_rfl) ?_)
        | refine AThen.normal ?_
        | refine AThen.exit ?_
        | refine AThen.ret ?_
        | refine AThen.pan ?_
        | refine AInBlock.pan ?_
        | refine AInBlock.normal ?_
        | refine AInBlock.ret ?_
        | refine AInBlock.same ?_
        | refine AInBlock.other rfl ?_)
    refine AWp.loop ?_
    refine AWpL.upto (fun j st => ∃ fr, st = { fr := fr, loc := [], M := M, ds := [] } ∧ Sub fr [(1, .iptr [.int .i64 G, .islice (fcells us) us.length] 0), (55, .islice (fcells us) us.length), (56, .int .i64 (us.length : Int)), (57, .int .i64 (j : Int))])
      us.length ?_ 0 _ (Nat.zero_le _) ⟨_, rfl, rfl, rfl, rfl, rfl, trivial⟩
    clear hp0 hp1 he0 hlt hj j
    rintro j st hj ⟨fr, rfl, hsub⟩ hnext
    refine AWp.mask hsub ?_
    clear hsub
    by_cases hlt : j < us.length
    · have hfn := ld_fn hlt
      obtain ⟨l, hl, hsm, hll, hlow, h0, h6, hle, h24, h40, hall⟩ := hmay us[j] (List.getElem_mem hlt)
      clear hmay
      generalize us[j] = f at hfn hl h0 h6 hle h24 hall
      obtain ⟨pa, lo, bo⟩ := f
      simp only at hl h0 h6 hle h24 hall
      subst hl
      simp only [FnR.cells] at hfn
      have hcall := cstmts_ok G (fcells us) us.length lo (cstmtT G lo us.length) l M hll (fun t ht => (unit_all G (fcells us) us.length lo t (smalls_mem hsm ht)).2.1 M)
      rw [hall, decide_eq_true h40] at hcall
      simp only [Bool.and_self] at hcall
      clear hlow hall
      repeat' (first
          | (show DOps _ _ _ _ _ _ _ _ _ _ _; first
              | refine D.end ?_
              | refine D.val (.inl rfl) rfl rfl rfl ?_
              | refine D.leave rfl rfl rfl rfl ?_
              | refine D.val (Wants.take rfl rfl) rfl rfl rfl ?_
              | refine (D.cmpT rfl (.inl rfl) rfl rfl rfl (decide_eq_true (by omega)) ?_)
              | refine (D.cmpF rfl (.inl rfl) rfl rfl rfl (decide_eq_false (by omega)) ?_)
              | refine D.cmp rfl (.inl rfl) rfl rfl rfl (fun _ => ?_) (fun _ => ?_)
              | refine D.valO (.inl rfl) rfl rfl rfl rfl ?_
              | refine D.build (.inl rfl) rfl rfl rfl rfl rfl rfl rfl ?_
              | refine D.buildSlice (.inl rfl) rfl rfl rfl rfl rfl rfl rfl rfl rfl ?_
              | refine (D.cmpT rfl (Wants.take rfl rfl) rfl rfl rfl (decide_eq_true (by omega)) ?_)
              | refine (D.cmpF rfl (Wants.take rfl rfl) rfl rfl rfl (decide_eq_false (by omega)) ?_)
              | refine D.cmp rfl (Wants.take rfl rfl) rfl rfl rfl (fun _ => ?_) (fun _ => ?_)
              | refine D.valO (Wants.take rfl rfl) rfl rfl rfl rfl ?_
              | refine D.build (Wants.take rfl rfl) rfl rfl rfl rfl rfl rfl rfl ?_
              | refine D.buildSlice (Wants.take rfl rfl) rfl rfl rfl rfl rfl rfl rfl rfl rfl ?_)
          | (show AOps _ _ _ _ _ _; first
              | refine AOps.nil ?_
              | refine AOps.plain rfl (W.pure rfl rfl rfl ?_)
              | refine AOps.plain rfl (W.cmpT rfl rfl rfl rfl (decide_eq_true (by omega)) ?_)
              | refine AOps.plain rfl (W.cmpF rfl rfl rfl rfl (decide_eq_false (by omega)) ?_)
              | refine AOps.plain rfl (W.indexAddr rfl rfl rfl rfl rfl rfl (by omega) (by omega) (fcells_ne hlt) ?_)
              | refine AOps.plain rfl (W.loadRow rfl rfl rfl rfl hfn ?_)
              | refine AOps.plain rfl (W.build56 rfl rfl rfl rfl rfl ?_)
              | refine AOps.plain rfl (W.callV rfl rfl rfl rfl rfl (hcall) rfl rfl rfl ?_)
              | refine AOps.plain rfl (W.cmp rfl rfl rfl rfl (fun _ => ?_) (fun _ => ?_))
              | refine W.leave rfl rfl rfl rfl ?_
              | refine AOps.take rfl rfl (W.pure rfl rfl rfl ?_)
              | refine AOps.take rfl rfl (W.cmpT rfl rfl rfl rfl (decide_eq_true (by omega)) ?_)
              | refine AOps.take rfl rfl (W.cmpF rfl rfl rfl rfl (decide_eq_false (by omega)) ?_)
              | refine AOps.take rfl rfl (W.indexAddr rfl rfl rfl rfl rfl rfl (by omega) (by omega) (fcells_ne hlt) ?_)
              | refine AOps.take rfl rfl (W.loadRow rfl rfl rfl rfl hfn ?_)
              | refine AOps.take rfl rfl (W.build56 rfl rfl rfl rfl rfl ?_)
              | refine AOps.take rfl rfl (W.callV rfl rfl rfl rfl rfl (hcall) rfl rfl rfl ?_)
              | refine AOps.take rfl rfl (W.cmp rfl rfl rfl rfl (fun _ => ?_) (fun _ => ?_))
              | refine AOps.plain rfl (W.boxI rfl rfl rfl rfl rfl rfl ?_)
              | refine AOps.plain rfl (W.build rfl rfl rfl rfl rfl rfl rfl ?_)
              | refine AOps.plain rfl (W.alloc rfl rfl rfl rfl rfl ?_)
              | refine AOps.plain rfl (W.storeL rfl rfl rfl rfl rfl rfl rfl rfl rfl ?_)
              | refine AOps.plain rfl (W.buildSlice rfl rfl rfl rfl rfl rfl rfl rfl rfl ?_))
          | (show AWp _ _ _ _ _; first
              | refine AWp.seq ?_
              | refine AWp.region ?_
              | refine AWp.condT rfl ?_
              | refine AWp.condF rfl ?_
              | refine AWp.skip ?_
              | refine AWp.block ?_
              | refine AWp.exit ?_
              | refine AWp.ret ?_
              | refine AWp.draw0 (by kernel_rfl) ?_)
          | refine AThen.normal ?_
          | refine AThen.exit ?_
          | refine AThen.ret ?_
          | refine AThen.pan ?_
          | refine AInBlock.pan ?_
          | refine AInBlock.normal ?_
          | refine AInBlock.ret ?_
          | refine AInBlock.same ?_
          | refine AInBlock.other rfl ?_)
      exact AWpL.fresh (fr' := [(1, .iptr [.int .i64 G, .islice (fcells us) us.length] 0), (55, .islice (fcells us) us.length), (56, .int .i64 (us.length : Int)), (57, .int .i64 ((j + 1 : Nat) : Int))])
          ⟨rfl, rfl, rfl, subInt (wrapAdd (by omega) (by omega)), trivial⟩ rfl (hnext.out _ hlt ⟨_, rfl, rfl, rfl, rfl, rfl, trivial⟩)
    · clear hnext
      repeat' (first
          | (show DOps _ _ _ _ _ _ _ _ _ _ _; first
              | refine D.end ?_
              | refine D.val (.inl rfl) rfl rfl rfl ?_
              | refine D.leave rfl rfl rfl rfl ?_
              | refine D.val (Wants.take rfl rfl) rfl rfl rfl ?_
              | refine (D.cmpF rfl (.inl rfl) rfl rfl rfl (decide_eq_false (by omega)) ?_)
              | refine D.cmp rfl (.inl rfl) rfl rfl rfl (fun _ => ?_) (fun _ => ?_)
              | refine D.valO (.inl rfl) rfl rfl rfl rfl ?_
              | refine D.build (.inl rfl) rfl rfl rfl rfl rfl rfl rfl ?_
              | refine D.buildSlice (.inl rfl) rfl rfl rfl rfl rfl rfl rfl rfl rfl ?_
              | refine (D.cmpF rfl (Wants.take rfl rfl) rfl rfl rfl (decide_eq_false (by omega)) ?_)
              | refine D.cmp rfl (Wants.take rfl rfl) rfl rfl rfl (fun _ => ?_) (fun _ => ?_)
              | refine D.valO (Wants.take rfl rfl) rfl rfl rfl rfl ?_
              | refine D.build (Wants.take rfl rfl) rfl rfl rfl rfl rfl rfl rfl ?_
              | refine D.buildSlice (Wants.take rfl rfl) rfl rfl rfl rfl rfl rfl rfl rfl rfl ?_)
          | (show AOps _ _ _ _ _ _; first
              | refine AOps.nil ?_
              | refine AOps.plain rfl (W.pure rfl rfl rfl ?_)
              | refine AOps.plain rfl (W.cmpF rfl rfl rfl rfl (decide_eq_false (by omega)) ?_)
              | refine AOps.plain rfl (W.cmp rfl rfl rfl rfl (fun _ => ?_) (fun _ => ?_))
              | refine W.leave rfl rfl rfl rfl ?_
              | refine AOps.take rfl rfl (W.pure rfl rfl rfl ?_)
              | refine AOps.take rfl rfl (W.cmpF rfl rfl rfl rfl (decide_eq_false (by omega)) ?_)
              | refine AOps.take rfl rfl (W.cmp rfl rfl rfl rfl (fun _ => ?_) (fun _ => ?_))
              | refine AOps.plain rfl (W.boxI rfl rfl rfl rfl rfl rfl ?_)
              | refine AOps.plain rfl (W.build rfl rfl rfl rfl rfl rfl rfl ?_)
              | refine AOps.plain rfl (W.alloc rfl rfl rfl rfl rfl ?_)
              | refine AOps.plain rfl (W.storeL rfl rfl rfl rfl rfl rfl rfl rfl rfl ?_)
              | refine AOps.plain rfl (W.buildSlice rfl rfl rfl rfl rfl rfl rfl rfl rfl ?_))
          | (show AWp _ _ _ _ _; first
              | refine AWp.seq ?_
              | refine AWp.region ?_
              | refine AWp.condT rfl ?_
              | refine AWp.condF rfl ?_
              | refine AWp.skip ?_
              | refine AWp.block ?_
              | refine AWp.exit ?_
              | refine AWp.ret ?_
              | refine AWp.draw0 (by kernel_rfl) ?_)
          | refine AThen.normal ?_
          | refine AThen.exit ?_
          | refine AThen.ret ?_
          | refine AThen.pan ?_
          | refine AInBlock.pan ?_
          | refine AInBlock.normal ?_
          | refine AInBlock.ret ?_
          | refine AInBlock.same ?_
          | refine AInBlock.other rfl ?_)
      exact bodyQ.one rfl rfl rfl ⟨rfl, rfl⟩

end Go.Proofs.Ytceocfancfjdjaa
