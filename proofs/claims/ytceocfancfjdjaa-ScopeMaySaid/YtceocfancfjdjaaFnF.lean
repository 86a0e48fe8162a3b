/- What the program's test of a whole tree answers. No condition. -/
import Derived.Test.YtceocfancfjdjaaFnFa
import Derived.Test.YtceocfancfjdjaaFnFb
namespace Go.Proofs.Ytceocfancfjdjaa
open Go Go.RowKit
attribute [local irreducible] ACalls AOps AOp AWp AWpL AThen AInBlock bodyQ seq

theorem tree_all (t : Tree) : t.small → Ans 65 [t.cv] (.bool (exprT t)) ∧ Ans 53 [t.cv] (.bool (stmtT t)) ∧ Ans 28 [t.cv] (.bool (blockT t)) := by
  induction t using Tree.ind with
  | h k o n s ns ks p ih =>
    intro hsm
    have he : ∀ M lo hi, ACalls 64 [.islice (rows ks) ks.length, .int .i64 lo, .int .i64 hi] M (fun r M' => r = .ret (.bool (manyB ks lo hi && allE ks)) ∧ M' = M) :=
      fun M lo hi => exprs_ok ks lo hi M hsm.2.2.1 (fun t ht => (ih t ht (smalls_mem hsm.2.2.2.2 ht)).1 M)
    have hst : ∀ M, ACalls 41 [.islice (rows ks) ks.length] M (fun r M' => r = .ret (.bool (decide ((ks.length : Int) ≤ 40) && allS ks)) ∧ M' = M) :=
      fun M => stmts_ok ks M hsm.2.2.1 (fun t ht => (ih t ht (smalls_mem hsm.2.2.2.2 ht)).2.1 M)
    exact ⟨fun M => expr_ok k o n s ns ks p M hsm (he M) (hst M),
      fun M => stmt_ok k o n s ns ks p M hsm (he M) (fun t ht => (ih t ht (smalls_mem hsm.2.2.2.2 ht)).1 M) (fun t ht => (ih t ht (smalls_mem hsm.2.2.2.2 ht)).2.2 M),
      fun M => block_ok k o n s ns ks p M (hst M)⟩

def checkT (t : Tree) : Int := if !(lowT t 12) then 13 else if !(blockT t) then 2 else 0

set_option maxHeartbeats 400000 in
theorem check_ok (t : Tree) (hsm : t.small) : Ans 16 [t.cv] (.int .i64 (checkT t)) := by
  intro M
  have h1 := low_ok t hsm 12 (by decide) M
  have h2 := (tree_all t hsm).2.2 M
  obtain ⟨k, o, n, s, ns, ks, p⟩ := t
  refine ACalls.of_body Try.func16 rfl rfl rfl ?_
  simp only [Try.ntmps16, frOf]
  repeat' (first
      | (show AOps _ _ _ _ _ _; first
          | refine AOps.nil ?_
          | refine AOps.plain rfl (W.pure rfl rfl rfl ?_)
          | refine AOps.plain rfl (W.callB rfl rfl rfl rfl rfl (h1) rfl rfl (fun _ => ?_) (fun _ => ?_))
          | refine AOps.plain rfl (W.callB rfl rfl rfl rfl rfl (h2) rfl rfl (fun _ => ?_) (fun _ => ?_))
          | refine AOps.plain rfl (W.cmp rfl rfl rfl rfl (fun _ => ?_) (fun _ => ?_))
          | refine W.leave rfl rfl rfl rfl ?_
          | refine AOps.take rfl rfl (W.pure rfl rfl rfl ?_)
          | refine AOps.take rfl rfl (W.callB rfl rfl rfl rfl rfl (h1) rfl rfl (fun _ => ?_) (fun _ => ?_))
          | refine AOps.take rfl rfl (W.callB rfl rfl rfl rfl rfl (h2) rfl rfl (fun _ => ?_) (fun _ => ?_))
          | refine AOps.take rfl rfl (W.cmp rfl rfl rfl rfl (fun _ => ?_) (fun _ => ?_))
          | refine AOps.plain rfl (W.boxI rfl rfl rfl rfl rfl rfl ?_)
          | refine AOps.plain rfl (W.build rfl rfl rfl rfl rfl rfl rfl ?_)
          | refine AOps.plain rfl (W.alloc rfl rfl rfl rfl rfl ?_)
          | refine AOps.plain rfl (W.storeL rfl rfl rfl rfl rfl rfl rfl rfl rfl ?_)
          | refine AOps.plain rfl (W.buildSlice rfl rfl rfl rfl rfl rfl rfl rfl rfl ?_))
      | (show AWp _ _ _ _ _; first
          | refine AWp.seq ?_
          | refine AWp.region ?_
          | refine AWp.condT rfl ?_
          | refine AWp.condF rfl ?_
          | refine AWp.skip ?_
          | refine AWp.block ?_
          | refine AWp.exit ?_
          | refine AWp.ret ?_)
      | refine AThen.normal ?_
      | refine AThen.exit ?_
      | refine AThen.ret ?_
      | refine AThen.pan ?_
      | refine AInBlock.pan ?_
      | refine AInBlock.normal ?_
      | refine AInBlock.ret ?_
      | refine AInBlock.same ?_
      | refine AInBlock.other rfl ?_)
  all_goals refine bodyQ.one rfl rfl rfl ⟨?_, rfl⟩
  all_goals simp [checkT, *]

end Go.Proofs.Ytceocfancfjdjaa
