/- Which trees are right: what the program's tests of expressions, statements and blocks answer. No condition. -/
import Derived.Test.YtceocfancfjdjaaFnD
namespace Go.Proofs.Ytceocfancfjdjaa
open Go Go.RowKit
attribute [local irreducible] ACalls AOps AOp AWp AWpL AThen AInBlock bodyQ seq

/-- So many of them. -/
def manyB (ks : List Tree) (lo hi : Int) : Bool := decide ((ks.length : Int) ≥ lo) && decide ((ks.length : Int) ≤ hi)

mutual
def exprT : Tree → Bool
  | .mk k o n s ns ks _ =>
    if k == 1 || k == 6 then bareB o n s ns true true true true && (ks.length : Int) == 0
    else if k == 2 then bareB o n s ns true false true true && (n == 0 || n == 1) && (ks.length : Int) == 0
    else if k == 3 then bareB o n s ns true false true true && decide (n ≥ 0) && decide (n ≤ 4611686018427387903) && (ks.length : Int) == 0
    else if k == 4 then bareB o n s ns true true false true && decide ((s.size : Int) ≤ 256) && (ks.length : Int) == 0
    else if k == 5 then bareB o n s ns true true false true && nameB s && (ks.length : Int) == 0
    else if k == 7 then bareB o n s ns true true true false && (decide ((ns.length : Int) ≤ 40) && ns.all isNameB) && (manyB ks ns.length ns.length && allE ks)
    else if k == 8 then bareB o n s ns true true true false && (decide ((ns.length : Int) ≤ 6) && ns.all nameB) && (decide ((ks.length : Int) ≤ 40) && allS ks)
    else if k == 9 then bareB o n s ns false true true true && (o == 1 || o == 2) && (manyB ks 1 1 && allE ks)
    else if k == 10 then bareB o n s ns false true true true && !(seq (signS o) nothing) && (manyB ks 2 2 && allE ks)
    else if k == 11 || k == 12 || k == 14 then bareB o n s ns true true true true && (manyB ks 2 2 && allE ks)
    else if k == 13 then bareB o n s ns true true false true && isNameB s && (manyB ks 1 1 && allE ks)
    else if k == 15 then bareB o n s ns true true true true && (manyB ks 1 7 && allE ks)
    else if k == 16 then bareB o n s ns true true false true && isNameB s && (manyB ks 1 7 && allE ks)
    else if k == 17 then bareB o n s ns false true true true && !(seq (builtS o) nothing) && (manyB ks (builtN o) (builtN o) && allE ks)
    else false
def stmtT : Tree → Bool
  | .mk k o n s ns ks _ =>
    if !(bareB o n s ns true true false true) then false
    else if k == 21 || k == 22 then nameB s && (manyB ks 1 1 && allE ks)
    else if k == 23 then isNameB s && (manyB ks 2 2 && allE ks)
    else if k == 25 then isNameB s && (manyB ks 1 1 && allE ks)
    else if !(seq s nothing) then false
    else if k == 24 then manyB ks 3 3 && allE ks
    else if k == 26 then manyB ks 2 2 && allE ks
    else if k == 27 || k == 31 || k == 32 then manyB ks 1 1 && allE ks
    else if k == 28 then ifT ks
    else if k == 30 then whileT ks
    else false
def blockT : Tree → Bool
  | .mk k o n s ns ks _ => k == 29 && bareB o n s ns true true true true && (decide ((ks.length : Int) ≤ 40) && allS ks)
def ifT : List Tree → Bool
  | [a, b, c] => exprT a && blockT b && blockT c
  | _ => false
def whileT : List Tree → Bool
  | [a, b] => exprT a && blockT b
  | _ => false
def allE : List Tree → Bool
  | [] => true
  | t :: r => exprT t && allE r
def allS : List Tree → Bool
  | [] => true
  | t :: r => stmtT t && allS r
end

theorem allE_all (l : List Tree) : allE l = l.all exprT := by
  induction l with
  | nil => rfl
  | cons t r ih => simp [allE, ih]
theorem allS_all (l : List Tree) : allS l = l.all stmtT := by
  induction l with
  | nil => rfl
  | cons t r ih => simp [allS, ih]

set_option maxHeartbeats 400000 in
theorem exprs1_ok (t : Tree) (b : Bool) (M : List AObj) (h : ACalls 65 [t.cv] M (fun r M' => r = .ret (.bool b) ∧ M' = M)) :
    ACalls 68 [t.cv] M (fun r M' => r = .ret (.bool (!b)) ∧ M' = M) := by
  obtain ⟨k, o, n, s, ns, ks, p⟩ := t
  refine ACalls.of_body Try.func68 rfl rfl rfl ?_
  simp only [Try.ntmps68, frOf]
  repeat' (first
      | (show AOps _ _ _ _ _ _; first
          | refine AOps.nil ?_
          | refine AOps.plain rfl (W.pure rfl rfl rfl ?_)
          | refine AOps.plain rfl (W.callB rfl rfl rfl rfl rfl (h) rfl rfl (fun _ => ?_) (fun _ => ?_))
          | refine AOps.plain rfl (W.cmp rfl rfl rfl rfl (fun _ => ?_) (fun _ => ?_))
          | refine W.leave rfl rfl rfl rfl ?_
          | refine AOps.take rfl rfl (W.pure rfl rfl rfl ?_)
          | refine AOps.take rfl rfl (W.callB rfl rfl rfl rfl rfl (h) rfl rfl (fun _ => ?_) (fun _ => ?_))
          | refine AOps.take rfl rfl (W.cmp rfl rfl rfl rfl (fun _ => ?_) (fun _ => ?_))
          | refine AOps.plain rfl (W.boxI rfl rfl rfl rfl rfl rfl ?_)
          | refine AOps.plain rfl (W.build rfl rfl rfl rfl rfl rfl rfl ?_)
          | refine AOps.plain rfl (W.alloc rfl rfl rfl rfl rfl ?_)
          | refine AOps.plain rfl (W.storeL rfl rfl rfl rfl rfl rfl rfl rfl rfl ?_)
          | refine AOps.plain rfl (W.buildSlice rfl rfl rfl rfl rfl rfl rfl rfl rfl ?_))
      | (show AWp _ _ _ _ _; first
          | refine AWp.seq ?_
          | refine AWp.region ?_
          | refine AWp.condT rfl ?_
          | refine AWp.condF rfl ?_
          | refine AWp.skip ?_
          | refine AWp.block ?_
          | refine AWp.exit ?_
          | refine AWp.ret ?_)
      | refine AThen.normal ?_
      | refine AThen.exit ?_
      | refine AThen.ret ?_
      | refine AThen.pan ?_
      | refine AInBlock.pan ?_
      | refine AInBlock.normal ?_
      | refine AInBlock.ret ?_
      | refine AInBlock.same ?_
      | refine AInBlock.other rfl ?_)
  all_goals refine bodyQ.one rfl rfl rfl ⟨?_, rfl⟩
  all_goals simp [*]

set_option maxHeartbeats 400000 in
theorem stmts1_ok (t : Tree) (b : Bool) (M : List AObj) (h : ACalls 53 [t.cv] M (fun r M' => r = .ret (.bool b) ∧ M' = M)) :
    ACalls 52 [t.cv] M (fun r M' => r = .ret (.bool (!b)) ∧ M' = M) := by
  obtain ⟨k, o, n, s, ns, ks, p⟩ := t
  refine ACalls.of_body Try.func52 rfl rfl rfl ?_
  simp only [Try.ntmps52, frOf]
  repeat' (first
      | (show AOps _ _ _ _ _ _; first
          | refine AOps.nil ?_
          | refine AOps.plain rfl (W.pure rfl rfl rfl ?_)
          | refine AOps.plain rfl (W.callB rfl rfl rfl rfl rfl (h) rfl rfl (fun _ => ?_) (fun _ => ?_))
          | refine AOps.plain rfl (W.cmp rfl rfl rfl rfl (fun _ => ?_) (fun _ => ?_))
          | refine W.leave rfl rfl rfl rfl ?_
          | refine AOps.take rfl rfl (W.pure rfl rfl rfl ?_)
          | refine AOps.take rfl rfl (W.callB rfl rfl rfl rfl rfl (h) rfl rfl (fun _ => ?_) (fun _ => ?_))
          | refine AOps.take rfl rfl (W.cmp rfl rfl rfl rfl (fun _ => ?_) (fun _ => ?_))
          | refine AOps.plain rfl (W.boxI rfl rfl rfl rfl rfl rfl ?_)
          | refine AOps.plain rfl (W.build rfl rfl rfl rfl rfl rfl rfl ?_)
          | refine AOps.plain rfl (W.alloc rfl rfl rfl rfl rfl ?_)
          | refine AOps.plain rfl (W.storeL rfl rfl rfl rfl rfl rfl rfl rfl rfl ?_)
          | refine AOps.plain rfl (W.buildSlice rfl rfl rfl rfl rfl rfl rfl rfl rfl ?_))
      | (show AWp _ _ _ _ _; first
          | refine AWp.seq ?_
          | refine AWp.region ?_
          | refine AWp.condT rfl ?_
          | refine AWp.condF rfl ?_
          | refine AWp.skip ?_
          | refine AWp.block ?_
          | refine AWp.exit ?_
          | refine AWp.ret ?_)
      | refine AThen.normal ?_
      | refine AThen.exit ?_
      | refine AThen.ret ?_
      | refine AThen.pan ?_
      | refine AInBlock.pan ?_
      | refine AInBlock.normal ?_
      | refine AInBlock.ret ?_
      | refine AInBlock.same ?_
      | refine AInBlock.other rfl ?_)
  all_goals refine bodyQ.one rfl rfl rfl ⟨?_, rfl⟩
  all_goals simp [*]

set_option maxHeartbeats 400000 in
theorem exprs_ok (ks : List Tree) (lo hi : Int) (M : List AObj) (hlen : ks.length < 281474976710656)
    (h : ∀ t, t ∈ ks → ACalls 65 [t.cv] M (fun r M' => r = .ret (.bool (exprT t)) ∧ M' = M)) :
    ACalls 64 [.islice (rows ks) ks.length, .int .i64 lo, .int .i64 hi] M (fun r M' => r = .ret (.bool (manyB ks lo hi && allE ks)) ∧ M' = M) := by
  have hc := containsN_ok 68 [] ks (fun t => !(exprT t)) M rfl hlen (fun t ht => exprs1_ok t _ M (h t ht))
  have hn := not_any ks (fun t => !(exprT t)) exprT (fun _ _ => rfl)
  refine ACalls.of_body Try.func64 rfl rfl rfl ?_
  simp only [Try.ntmps64, frOf]
  repeat' (first
      | (show AOps _ _ _ _ _ _; first
          | refine AOps.nil ?_
          | refine AOps.plain rfl (W.pure rfl rfl rfl ?_)
          | refine AOps.plain rfl (W.callB rfl rfl rfl rfl rfl (hc) rfl rfl (fun _ => ?_) (fun _ => ?_))
          | refine AOps.plain rfl (W.cmp rfl rfl rfl rfl (fun _ => ?_) (fun _ => ?_))
          | refine W.leave rfl rfl rfl rfl ?_
          | refine AOps.take rfl rfl (W.pure rfl rfl rfl ?_)
          | refine AOps.take rfl rfl (W.callB rfl rfl rfl rfl rfl (hc) rfl rfl (fun _ => ?_) (fun _ => ?_))
          | refine AOps.take rfl rfl (W.cmp rfl rfl rfl rfl (fun _ => ?_) (fun _ => ?_))
          | refine AOps.plain rfl (W.boxI rfl rfl rfl rfl rfl rfl ?_)
          | refine AOps.plain rfl (W.build rfl rfl rfl rfl rfl rfl rfl ?_)
          | refine AOps.plain rfl (W.alloc rfl rfl rfl rfl rfl ?_)
          | refine AOps.plain rfl (W.storeL rfl rfl rfl rfl rfl rfl rfl rfl rfl ?_)
          | refine AOps.plain rfl (W.buildSlice rfl rfl rfl rfl rfl rfl rfl rfl rfl ?_))
      | (show AWp _ _ _ _ _; first
          | refine AWp.seq ?_
          | refine AWp.region ?_
          | refine AWp.condT rfl ?_
          | refine AWp.condF rfl ?_
          | refine AWp.skip ?_
          | refine AWp.block ?_
          | refine AWp.exit ?_
          | refine AWp.ret ?_)
      | refine AThen.normal ?_
      | refine AThen.exit ?_
      | refine AThen.ret ?_
      | refine AThen.pan ?_
      | refine AInBlock.pan ?_
      | refine AInBlock.normal ?_
      | refine AInBlock.ret ?_
      | refine AInBlock.same ?_
      | refine AInBlock.other rfl ?_)
  all_goals refine bodyQ.one rfl rfl rfl ⟨?_, rfl⟩
  all_goals simp only [manyB, allE_all, ← hn]
  all_goals simp [*]

set_option maxHeartbeats 400000 in
theorem stmts_ok (ks : List Tree) (M : List AObj) (hlen : ks.length < 281474976710656)
    (h : ∀ t, t ∈ ks → ACalls 53 [t.cv] M (fun r M' => r = .ret (.bool (stmtT t)) ∧ M' = M)) :
    ACalls 41 [.islice (rows ks) ks.length] M (fun r M' => r = .ret (.bool (decide ((ks.length : Int) ≤ 40) && allS ks)) ∧ M' = M) := by
  have hc := containsN_ok 52 [] ks (fun t => !(stmtT t)) M rfl hlen (fun t ht => stmts1_ok t _ M (h t ht))
  have hn := not_any ks (fun t => !(stmtT t)) stmtT (fun _ _ => rfl)
  refine ACalls.of_body Try.func41 rfl rfl rfl ?_
  simp only [Try.ntmps41, frOf]
  repeat' (first
      | (show AOps _ _ _ _ _ _; first
          | refine AOps.nil ?_
          | refine AOps.plain rfl (W.pure rfl rfl rfl ?_)
          | refine AOps.plain rfl (W.callB rfl rfl rfl rfl rfl (hc) rfl rfl (fun _ => ?_) (fun _ => ?_))
          | refine AOps.plain rfl (W.cmp rfl rfl rfl rfl (fun _ => ?_) (fun _ => ?_))
          | refine W.leave rfl rfl rfl rfl ?_
          | refine AOps.take rfl rfl (W.pure rfl rfl rfl ?_)
          | refine AOps.take rfl rfl (W.callB rfl rfl rfl rfl rfl (hc) rfl rfl (fun _ => ?_) (fun _ => ?_))
          | refine AOps.take rfl rfl (W.cmp rfl rfl rfl rfl (fun _ => ?_) (fun _ => ?_))
          | refine AOps.plain rfl (W.boxI rfl rfl rfl rfl rfl rfl ?_)
          | refine AOps.plain rfl (W.build rfl rfl rfl rfl rfl rfl rfl ?_)
          | refine AOps.plain rfl (W.alloc rfl rfl rfl rfl rfl ?_)
          | refine AOps.plain rfl (W.storeL rfl rfl rfl rfl rfl rfl rfl rfl rfl ?_)
          | refine AOps.plain rfl (W.buildSlice rfl rfl rfl rfl rfl rfl rfl rfl rfl ?_))
      | (show AWp _ _ _ _ _; first
          | refine AWp.seq ?_
          | refine AWp.region ?_
          | refine AWp.condT rfl ?_
          | refine AWp.condF rfl ?_
          | refine AWp.skip ?_
          | refine AWp.block ?_
          | refine AWp.exit ?_
          | refine AWp.ret ?_)
      | refine AThen.normal ?_
      | refine AThen.exit ?_
      | refine AThen.ret ?_
      | refine AThen.pan ?_
      | refine AInBlock.pan ?_
      | refine AInBlock.normal ?_
      | refine AInBlock.ret ?_
      | refine AInBlock.same ?_
      | refine AInBlock.other rfl ?_)
  all_goals refine bodyQ.one rfl rfl rfl ⟨?_, rfl⟩
  all_goals simp only [allS_all, ← hn]
  all_goals simp [*]

set_option maxHeartbeats 400000 in
theorem block_ok (k o n : Int) (s : ByteArray) (ns : List ByteArray) (ks : List Tree) (p : Int) (M : List AObj)
    (h : ACalls 41 [.islice (rows ks) ks.length] M (fun r M' => r = .ret (.bool (decide ((ks.length : Int) ≤ 40) && allS ks)) ∧ M' = M)) :
    ACalls 28 [(Tree.mk k o n s ns ks p).cv] M (fun r M' => r = .ret (.bool (blockT (Tree.mk k o n s ns ks p))) ∧ M' = M) := by
  refine ACalls.of_body Try.func28 rfl rfl rfl ?_
  simp only [Try.ntmps28, frOf]
  repeat' (first
      | (show AOps _ _ _ _ _ _; first
          | refine AOps.nil ?_
          | refine AOps.plain rfl (W.pure rfl rfl rfl ?_)
          | refine AOps.plain rfl (W.callB rfl rfl rfl rfl rfl (h) rfl rfl (fun _ => ?_) (fun _ => ?_))
          | refine AOps.plain rfl (W.callB rfl rfl rfl rfl rfl (bare_ok k o n s ns ks p _ _ _ _ M) rfl rfl (fun _ => ?_) (fun _ => ?_))
          | refine AOps.plain rfl (W.cmp rfl rfl rfl rfl (fun _ => ?_) (fun _ => ?_))
          | refine W.leave rfl rfl rfl rfl ?_
          | refine AOps.take rfl rfl (W.pure rfl rfl rfl ?_)
          | refine AOps.take rfl rfl (W.callB rfl rfl rfl rfl rfl (h) rfl rfl (fun _ => ?_) (fun _ => ?_))
          | refine AOps.take rfl rfl (W.callB rfl rfl rfl rfl rfl (bare_ok k o n s ns ks p _ _ _ _ M) rfl rfl (fun _ => ?_) (fun _ => ?_))
          | refine AOps.take rfl rfl (W.cmp rfl rfl rfl rfl (fun _ => ?_) (fun _ => ?_))
          | refine AOps.plain rfl (W.boxI rfl rfl rfl rfl rfl rfl ?_)
          | refine AOps.plain rfl (W.build rfl rfl rfl rfl rfl rfl rfl ?_)
          | refine AOps.plain rfl (W.alloc rfl rfl rfl rfl rfl ?_)
          | refine AOps.plain rfl (W.storeL rfl rfl rfl rfl rfl rfl rfl rfl rfl ?_)
          | refine AOps.plain rfl (W.buildSlice rfl rfl rfl rfl rfl rfl rfl rfl rfl ?_))
      | (show AWp _ _ _ _ _; first
          | refine AWp.seq ?_
          | refine AWp.region ?_
          | refine AWp.condT rfl ?_
          | refine AWp.condF rfl ?_
          | refine AWp.skip ?_
          | refine AWp.block ?_
          | refine AWp.exit ?_
          | refine AWp.ret ?_)
      | refine AThen.normal ?_
      | refine AThen.exit ?_
      | refine AThen.ret ?_
      | refine AThen.pan ?_
      | refine AInBlock.pan ?_
      | refine AInBlock.normal ?_
      | refine AInBlock.ret ?_
      | refine AInBlock.same ?_
      | refine AInBlock.other rfl ?_)
  all_goals refine bodyQ.one rfl rfl rfl ⟨?_, rfl⟩
  all_goals simp [blockT, *]

end Go.Proofs.Ytceocfancfjdjaa
