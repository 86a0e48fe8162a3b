/- What the program's test of an expression answers, its parts given. No condition. -/
import Derived.Test.YtceocfancfjdjaaFnE
namespace Go.Proofs.Ytceocfancfjdjaa
open Go Go.RowKit
attribute [local irreducible] ACalls AOps AOp AWp AWpL AThen AInBlock bodyQ seq

set_option maxHeartbeats 8000000 in
set_option maxRecDepth 10000 in
theorem expr_ok (k o n : Int) (s : ByteArray) (ns : List ByteArray) (ks : List Tree) (p : Int) (M : List AObj) (hsm : (Tree.mk k o n s ns ks p).small)
    (he : ∀ lo hi, ACalls 64 [.islice (rows ks) ks.length, .int .i64 lo, .int .i64 hi] M (fun r M' => r = .ret (.bool (manyB ks lo hi && allE ks)) ∧ M' = M))
    (hst : ACalls 41 [.islice (rows ks) ks.length] M (fun r M' => r = .ret (.bool (decide ((ks.length : Int) ≤ 40) && allS ks)) ∧ M' = M)) :
    ACalls 65 [(Tree.mk k o n s ns ks p).cv] M (fun r M' => r = .ret (.bool (exprT (Tree.mk k o n s ns ks p))) ∧ M' = M) := by
  have hn1 := names_ok ns 40 47 isNameB M hsm.2.1 (fun x hx => isName_ok x (hsm.2.2.2.1 x hx) M)
  have hn2 := names_ok ns 6 63 nameB M hsm.2.1 (fun x hx => name_ok x (hsm.2.2.2.1 x hx) M)
  have h47 := isName_ok s hsm.1 M
  have h63 := name_ok s hsm.1 M
  refine ACalls.of_body Try.func65 rfl rfl rfl ?_
  simp only [Try.ntmps65, frOf]
  repeat' (first
      | (show AOps _ _ _ _ _ _; first
          | refine AOps.nil ?_
          | refine AOps.plain rfl (W.pure rfl rfl rfl ?_)
          | refine AOps.plain rfl (W.callB rfl rfl rfl rfl rfl (bare_ok k o n s ns ks p _ _ _ _ M) rfl rfl (fun _ => ?_) (fun _ => ?_))
          | refine AOps.plain rfl (W.callB rfl rfl rfl rfl rfl (he _ _) rfl rfl (fun _ => ?_) (fun _ => ?_))
          | refine AOps.plain rfl (W.callB rfl rfl rfl rfl rfl (h47) rfl rfl (fun _ => ?_) (fun _ => ?_))
          | refine AOps.plain rfl (W.callB rfl rfl rfl rfl rfl (h63) rfl rfl (fun _ => ?_) (fun _ => ?_))
          | refine AOps.plain rfl (W.callB rfl rfl rfl rfl rfl (hn1) rfl rfl (fun _ => ?_) (fun _ => ?_))
          | refine AOps.plain rfl (W.callB rfl rfl rfl rfl rfl (hn2) rfl rfl (fun _ => ?_) (fun _ => ?_))
          | refine AOps.plain rfl (W.callB rfl rfl rfl rfl rfl (hst) rfl rfl (fun _ => ?_) (fun _ => ?_))
          | refine AOps.plain rfl (W.callV rfl rfl rfl rfl rfl (sign_ok o M) rfl rfl rfl ?_)
          | refine AOps.plain rfl (W.callV rfl rfl rfl rfl rfl (built_ok o M) rfl rfl rfl ?_)
          | refine AOps.plain rfl (W.cmp rfl rfl rfl rfl (fun _ => ?_) (fun _ => ?_))
          | refine W.leave rfl rfl rfl rfl ?_
          | refine AOps.take rfl rfl (W.pure rfl rfl rfl ?_)
          | refine AOps.take rfl rfl (W.callB rfl rfl rfl rfl rfl (bare_ok k o n s ns ks p _ _ _ _ M) rfl rfl (fun _ => ?_) (fun _ => ?_))
          | refine AOps.take rfl rfl (W.callB rfl rfl rfl rfl rfl (he _ _) rfl rfl (fun _ => ?_) (fun _ => ?_))
          | refine AOps.take rfl rfl (W.callB rfl rfl rfl rfl rfl (h47) rfl rfl (fun _ => ?_) (fun _ => ?_))
          | refine AOps.take rfl rfl (W.callB rfl rfl rfl rfl rfl (h63) rfl rfl (fun _ => ?_) (fun _ => ?_))
          | refine AOps.take rfl rfl (W.callB rfl rfl rfl rfl rfl (hn1) rfl rfl (fun _ => ?_) (fun _ => ?_))
          | refine AOps.take rfl rfl (W.callB rfl rfl rfl rfl rfl (hn2) rfl rfl (fun _ => ?_) (fun _ => ?_))
          | refine AOps.take rfl rfl (W.callB rfl rfl rfl rfl rfl (hst) rfl rfl (fun _ => ?_) (fun _ => ?_))
          | refine AOps.take rfl rfl (W.callV rfl rfl rfl rfl rfl (sign_ok o M) rfl rfl rfl ?_)
          | refine AOps.take rfl rfl (W.callV rfl rfl rfl rfl rfl (built_ok o M) rfl rfl rfl ?_)
          | refine AOps.take rfl rfl (W.cmp rfl rfl rfl rfl (fun _ => ?_) (fun _ => ?_))
          | refine AOps.plain rfl (W.boxI rfl rfl rfl rfl rfl rfl ?_)
          | refine AOps.plain rfl (W.build rfl rfl rfl rfl rfl rfl rfl ?_)
          | refine AOps.plain rfl (W.alloc rfl rfl rfl rfl rfl ?_)
          | refine AOps.plain rfl (W.storeL rfl rfl rfl rfl rfl rfl rfl rfl rfl ?_)
          | refine AOps.plain rfl (W.buildSlice rfl rfl rfl rfl rfl rfl rfl rfl rfl ?_))
      | (show AWp _ _ _ _ _; first
          | refine AWp.seq ?_
          | refine AWp.region ?_
          | refine AWp.condT rfl ?_
          | refine AWp.condF rfl ?_
          | refine AWp.skip ?_
          | refine AWp.block ?_
          | refine AWp.exit ?_
          | refine AWp.ret ?_)
      | refine AThen.normal ?_
      | refine AThen.exit ?_
      | refine AThen.ret ?_
      | refine AThen.pan ?_
      | refine AInBlock.pan ?_
      | refine AInBlock.normal ?_
      | refine AInBlock.ret ?_
      | refine AInBlock.same ?_
      | refine AInBlock.other rfl ?_)
  all_goals refine bodyQ.one rfl rfl rfl ⟨?_, rfl⟩
  all_goals (clear he hst hn1 hn2 h47 h63 hsm; simp [exprT, nothing, *])

end Go.Proofs.Ytceocfancfjdjaa
