/- What the program's test of a statement answers, its parts given. No condition. -/
import Derived.Test.YtceocfancfjdjaaFnE
namespace Go.Proofs.Ytceocfancfjdjaa
open Go Go.RowKit
attribute [local irreducible] ACalls AOps AOp AWp AWpL AThen AInBlock bodyQ seq

theorem Tree.cv_noLs (t : Tree) : noLs [t.cv] = true := noLs_cv rfl

set_option maxHeartbeats 8000000 in
set_option maxRecDepth 10000 in
theorem stmt_ok (k o n : Int) (s : ByteArray) (ns : List ByteArray) (ks : List Tree) (p : Int) (M : List AObj) (hsm : (Tree.mk k o n s ns ks p).small)
    (he : ∀ lo hi, ACalls 64 [.islice (rows ks) ks.length, .int .i64 lo, .int .i64 hi] M (fun r M' => r = .ret (.bool (manyB ks lo hi && allE ks)) ∧ M' = M))
    (h1 : ∀ t, t ∈ ks → ACalls 65 [t.cv] M (fun r M' => r = .ret (.bool (exprT t)) ∧ M' = M))
    (h2 : ∀ t, t ∈ ks → ACalls 28 [t.cv] M (fun r M' => r = .ret (.bool (blockT t)) ∧ M' = M)) :
    ACalls 53 [(Tree.mk k o n s ns ks p).cv] M (fun r M' => r = .ret (.bool (stmtT (Tree.mk k o n s ns ks p))) ∧ M' = M) := by
  have h47 := isName_ok s hsm.1 M
  have h63 := name_ok s hsm.1 M
  by_cases hk28 : k = 28
  · subst hk28
    by_cases hl : ks.length = 3
    · match ks, hl with
      | [a, b, c], _ =>
        have ha := h1 a (by simp)
        have hb := h2 b (by simp)
        have hc := h2 c (by simp)
        refine ACalls.of_body Try.func53 rfl rfl rfl ?_
        simp only [Try.ntmps53, frOf]
        repeat' (first
            | (show AOps _ _ _ _ _ _; first
                | refine AOps.nil ?_
                | refine AOps.plain rfl (W.pure rfl rfl rfl ?_)
                | refine AOps.plain rfl (W.callB rfl rfl rfl rfl rfl (bare_ok 28 o n s ns [a, b, c] p _ _ _ _ M) rfl rfl (fun _ => ?_) (fun _ => ?_))
                | refine AOps.plain rfl (W.callB rfl rfl rfl rfl rfl (he _ _) rfl rfl (fun _ => ?_) (fun _ => ?_))
                | refine AOps.plain rfl (W.callB rfl rfl rfl rfl rfl (h47) rfl rfl (fun _ => ?_) (fun _ => ?_))
                | refine AOps.plain rfl (W.callB rfl rfl rfl rfl rfl (h63) rfl rfl (fun _ => ?_) (fun _ => ?_))
                | refine AOps.plain rfl (W.indexAddr rfl rfl rfl rfl rfl rfl (by decide) (by simp) (rows_ne (k := 0) (by simp)) ?_)
                | refine AOps.plain rfl (W.loadRow rfl rfl rfl rfl (ld_kid (l := [a, b, c]) (k := 0) (by simp)) ?_)
                | refine AOps.plain rfl (W.loadRow rfl rfl rfl rfl (ld_kid (l := [a, b, c]) (k := 1) (by simp)) ?_)
                | refine AOps.plain rfl (W.loadRow rfl rfl rfl rfl (ld_kid (l := [a, b, c]) (k := 2) (by simp)) ?_)
                | refine AOps.plain rfl (W.callB rfl rfl rfl rfl rfl ha a.cv_noLs rfl (fun _ => ?_) (fun _ => ?_))
                | refine AOps.plain rfl (W.callB rfl rfl rfl rfl rfl hb b.cv_noLs rfl (fun _ => ?_) (fun _ => ?_))
                | refine AOps.plain rfl (W.callB rfl rfl rfl rfl rfl hc c.cv_noLs rfl (fun _ => ?_) (fun _ => ?_))
                | refine AOps.plain rfl (W.cmp rfl rfl rfl rfl (fun _ => ?_) (fun _ => ?_))
                | refine W.leave rfl rfl rfl rfl ?_
                | refine AOps.take rfl rfl (W.pure rfl rfl rfl ?_)
                | refine AOps.take rfl rfl (W.callB rfl rfl rfl rfl rfl (bare_ok 28 o n s ns [a, b, c] p _ _ _ _ M) rfl rfl (fun _ => ?_) (fun _ => ?_))
                | refine AOps.take rfl rfl (W.callB rfl rfl rfl rfl rfl (he _ _) rfl rfl (fun _ => ?_) (fun _ => ?_))
                | refine AOps.take rfl rfl (W.callB rfl rfl rfl rfl rfl (h47) rfl rfl (fun _ => ?_) (fun _ => ?_))
                | refine AOps.take rfl rfl (W.callB rfl rfl rfl rfl rfl (h63) rfl rfl (fun _ => ?_) (fun _ => ?_))
                | refine AOps.take rfl rfl (W.indexAddr rfl rfl rfl rfl rfl rfl (by decide) (by simp) (rows_ne (k := 0) (by simp)) ?_)
                | refine AOps.take rfl rfl (W.loadRow rfl rfl rfl rfl (ld_kid (l := [a, b, c]) (k := 0) (by simp)) ?_)
                | refine AOps.take rfl rfl (W.loadRow rfl rfl rfl rfl (ld_kid (l := [a, b, c]) (k := 1) (by simp)) ?_)
                | refine AOps.take rfl rfl (W.loadRow rfl rfl rfl rfl (ld_kid (l := [a, b, c]) (k := 2) (by simp)) ?_)
                | refine AOps.take rfl rfl (W.callB rfl rfl rfl rfl rfl ha a.cv_noLs rfl (fun _ => ?_) (fun _ => ?_))
                | refine AOps.take rfl rfl (W.callB rfl rfl rfl rfl rfl hb b.cv_noLs rfl (fun _ => ?_) (fun _ => ?_))
                | refine AOps.take rfl rfl (W.callB rfl rfl rfl rfl rfl hc c.cv_noLs rfl (fun _ => ?_) (fun _ => ?_))
                | refine AOps.take rfl rfl (W.cmp rfl rfl rfl rfl (fun _ => ?_) (fun _ => ?_))
                | refine AOps.plain rfl (W.boxI rfl rfl rfl rfl rfl rfl ?_)
                | refine AOps.plain rfl (W.build rfl rfl rfl rfl rfl rfl rfl ?_)
                | refine AOps.plain rfl (W.alloc rfl rfl rfl rfl rfl ?_)
                | refine AOps.plain rfl (W.storeL rfl rfl rfl rfl rfl rfl rfl rfl rfl ?_)
                | refine AOps.plain rfl (W.buildSlice rfl rfl rfl rfl rfl rfl rfl rfl rfl ?_))
            | (show AWp _ _ _ _ _; first
                | refine AWp.seq ?_
                | refine AWp.region ?_
                | refine AWp.condT rfl ?_
                | refine AWp.condF rfl ?_
                | refine AWp.skip ?_
                | refine AWp.block ?_
                | refine AWp.exit ?_
                | refine AWp.ret ?_)
            | refine AThen.normal ?_
            | refine AThen.exit ?_
            | refine AThen.ret ?_
            | refine AThen.pan ?_
            | refine AInBlock.pan ?_
            | refine AInBlock.normal ?_
            | refine AInBlock.ret ?_
            | refine AInBlock.same ?_
            | refine AInBlock.other rfl ?_)
        all_goals refine bodyQ.one rfl rfl rfl ⟨?_, rfl⟩
        all_goals (clear he h1 h2 h47 h63 hsm ha hb hc; simp [stmtT, ifT, nothing, *])
    · have hne : ((ks.length : Int) == 3) = false := by rw [beq_eq_false_iff_ne]; omega
      have hif : ifT ks = false := by
        match ks, hl with
        | [], _ => rfl
        | [_], _ => rfl
        | [_, _], _ => rfl
        | [_, _, _], hl => exact absurd rfl hl
        | _ :: _ :: _ :: _ :: _, _ => rfl
      refine ACalls.of_body Try.func53 rfl rfl rfl ?_
      simp only [Try.ntmps53, frOf]
      repeat' (first
          | (show AOps _ _ _ _ _ _; first
              | refine AOps.nil ?_
              | refine AOps.plain rfl (W.pure rfl rfl rfl ?_)
              | refine AOps.plain rfl (W.callB rfl rfl rfl rfl rfl (bare_ok 28 o n s ns ks p _ _ _ _ M) rfl rfl (fun _ => ?_) (fun _ => ?_))
              | refine AOps.plain rfl (W.callB rfl rfl rfl rfl rfl (he _ _) rfl rfl (fun _ => ?_) (fun _ => ?_))
              | refine AOps.plain rfl (W.callB rfl rfl rfl rfl rfl (h47) rfl rfl (fun _ => ?_) (fun _ => ?_))
              | refine AOps.plain rfl (W.callB rfl rfl rfl rfl rfl (h63) rfl rfl (fun _ => ?_) (fun _ => ?_))
              | refine AOps.plain rfl (W.cmpF rfl rfl rfl rfl (hne) ?_)
              | refine AOps.plain rfl (W.cmp rfl rfl rfl rfl (fun _ => ?_) (fun _ => ?_))
              | refine W.leave rfl rfl rfl rfl ?_
              | refine AOps.take rfl rfl (W.pure rfl rfl rfl ?_)
              | refine AOps.take rfl rfl (W.callB rfl rfl rfl rfl rfl (bare_ok 28 o n s ns ks p _ _ _ _ M) rfl rfl (fun _ => ?_) (fun _ => ?_))
              | refine AOps.take rfl rfl (W.callB rfl rfl rfl rfl rfl (he _ _) rfl rfl (fun _ => ?_) (fun _ => ?_))
              | refine AOps.take rfl rfl (W.callB rfl rfl rfl rfl rfl (h47) rfl rfl (fun _ => ?_) (fun _ => ?_))
              | refine AOps.take rfl rfl (W.callB rfl rfl rfl rfl rfl (h63) rfl rfl (fun _ => ?_) (fun _ => ?_))
              | refine AOps.take rfl rfl (W.cmpF rfl rfl rfl rfl (hne) ?_)
              | refine AOps.take rfl rfl (W.cmp rfl rfl rfl rfl (fun _ => ?_) (fun _ => ?_))
              | refine AOps.plain rfl (W.boxI rfl rfl rfl rfl rfl rfl ?_)
              | refine AOps.plain rfl (W.build rfl rfl rfl rfl rfl rfl rfl ?_)
              | refine AOps.plain rfl (W.alloc rfl rfl rfl rfl rfl ?_)
              | refine AOps.plain rfl (W.storeL rfl rfl rfl rfl rfl rfl rfl rfl rfl ?_)
              | refine AOps.plain rfl (W.buildSlice rfl rfl rfl rfl rfl rfl rfl rfl rfl ?_))
          | (show AWp _ _ _ _ _; first
              | refine AWp.seq ?_
              | refine AWp.region ?_
              | refine AWp.condT rfl ?_
              | refine AWp.condF rfl ?_
              | refine AWp.skip ?_
              | refine AWp.block ?_
              | refine AWp.exit ?_
              | refine AWp.ret ?_)
          | refine AThen.normal ?_
          | refine AThen.exit ?_
          | refine AThen.ret ?_
          | refine AThen.pan ?_
          | refine AInBlock.pan ?_
          | refine AInBlock.normal ?_
          | refine AInBlock.ret ?_
          | refine AInBlock.same ?_
          | refine AInBlock.other rfl ?_)
      all_goals refine bodyQ.one rfl rfl rfl ⟨?_, rfl⟩
      all_goals (clear he h1 h2 h47 h63 hsm; simp [stmtT, nothing, *])
  · by_cases hk30 : k = 30
    · subst hk30
      by_cases hl : ks.length = 2
      · match ks, hl with
        | [a, b], _ =>
          have ha := h1 a (by simp)
          have hb := h2 b (by simp)
          refine ACalls.of_body Try.func53 rfl rfl rfl ?_
          simp only [Try.ntmps53, frOf]
          repeat' (first
              | (show AOps _ _ _ _ _ _; first
                  | refine AOps.nil ?_
                  | refine AOps.plain rfl (W.pure rfl rfl rfl ?_)
                  | refine AOps.plain rfl (W.callB rfl rfl rfl rfl rfl (bare_ok 30 o n s ns [a, b] p _ _ _ _ M) rfl rfl (fun _ => ?_) (fun _ => ?_))
                  | refine AOps.plain rfl (W.callB rfl rfl rfl rfl rfl (he _ _) rfl rfl (fun _ => ?_) (fun _ => ?_))
                  | refine AOps.plain rfl (W.callB rfl rfl rfl rfl rfl (h47) rfl rfl (fun _ => ?_) (fun _ => ?_))
                  | refine AOps.plain rfl (W.callB rfl rfl rfl rfl rfl (h63) rfl rfl (fun _ => ?_) (fun _ => ?_))
                  | refine AOps.plain rfl (W.indexAddr rfl rfl rfl rfl rfl rfl (by decide) (by simp) (rows_ne (k := 0) (by simp)) ?_)
                  | refine AOps.plain rfl (W.loadRow rfl rfl rfl rfl (ld_kid (l := [a, b]) (k := 0) (by simp)) ?_)
                  | refine AOps.plain rfl (W.loadRow rfl rfl rfl rfl (ld_kid (l := [a, b]) (k := 1) (by simp)) ?_)
                  | refine AOps.plain rfl (W.callB rfl rfl rfl rfl rfl ha a.cv_noLs rfl (fun _ => ?_) (fun _ => ?_))
                  | refine AOps.plain rfl (W.callB rfl rfl rfl rfl rfl hb b.cv_noLs rfl (fun _ => ?_) (fun _ => ?_))
                  | refine AOps.plain rfl (W.cmp rfl rfl rfl rfl (fun _ => ?_) (fun _ => ?_))
                  | refine W.leave rfl rfl rfl rfl ?_
                  | refine AOps.take rfl rfl (W.pure rfl rfl rfl ?_)
                  | refine AOps.take rfl rfl (W.callB rfl rfl rfl rfl rfl (bare_ok 30 o n s ns [a, b] p _ _ _ _ M) rfl rfl (fun _ => ?_) (fun _ => ?_))
                  | refine AOps.take rfl rfl (W.callB rfl rfl rfl rfl rfl (he _ _) rfl rfl (fun _ => ?_) (fun _ => ?_))
                  | refine AOps.take rfl rfl (W.callB rfl rfl rfl rfl rfl (h47) rfl rfl (fun _ => ?_) (fun _ => ?_))
                  | refine AOps.take rfl rfl (W.callB rfl rfl rfl rfl rfl (h63) rfl rfl (fun _ => ?_) (fun _ => ?_))
                  | refine AOps.take rfl rfl (W.indexAddr rfl rfl rfl rfl rfl rfl (by decide) (by simp) (rows_ne (k := 0) (by simp)) ?_)
                  | refine AOps.take rfl rfl (W.loadRow rfl rfl rfl rfl (ld_kid (l := [a, b]) (k := 0) (by simp)) ?_)
                  | refine AOps.take rfl rfl (W.loadRow rfl rfl rfl rfl (ld_kid (l := [a, b]) (k := 1) (by simp)) ?_)
                  | refine AOps.take rfl rfl (W.callB rfl rfl rfl rfl rfl ha a.cv_noLs rfl (fun _ => ?_) (fun _ => ?_))
                  | refine AOps.take rfl rfl (W.callB rfl rfl rfl rfl rfl hb b.cv_noLs rfl (fun _ => ?_) (fun _ => ?_))
                  | refine AOps.take rfl rfl (W.cmp rfl rfl rfl rfl (fun _ => ?_) (fun _ => ?_))
                  | refine AOps.plain rfl (W.boxI rfl rfl rfl rfl rfl rfl ?_)
                  | refine AOps.plain rfl (W.build rfl rfl rfl rfl rfl rfl rfl ?_)
                  | refine AOps.plain rfl (W.alloc rfl rfl rfl rfl rfl ?_)
                  | refine AOps.plain rfl (W.storeL rfl rfl rfl rfl rfl rfl rfl rfl rfl ?_)
                  | refine AOps.plain rfl (W.buildSlice rfl rfl rfl rfl rfl rfl rfl rfl rfl ?_))
              | (show AWp _ _ _ _ _; first
                  | refine AWp.seq ?_
                  | refine AWp.region ?_
                  | refine AWp.condT rfl ?_
                  | refine AWp.condF rfl ?_
                  | refine AWp.skip ?_
                  | refine AWp.block ?_
                  | refine AWp.exit ?_
                  | refine AWp.ret ?_)
              | refine AThen.normal ?_
              | refine AThen.exit ?_
              | refine AThen.ret ?_
              | refine AThen.pan ?_
              | refine AInBlock.pan ?_
              | refine AInBlock.normal ?_
              | refine AInBlock.ret ?_
              | refine AInBlock.same ?_
              | refine AInBlock.other rfl ?_)
          all_goals refine bodyQ.one rfl rfl rfl ⟨?_, rfl⟩
          all_goals (clear he h1 h2 h47 h63 hsm ha hb; simp [stmtT, whileT, nothing, *])
      · have hne : ((ks.length : Int) == 2) = false := by rw [beq_eq_false_iff_ne]; omega
        have hif : whileT ks = false := by
          match ks, hl with
          | [], _ => rfl
          | [_], _ => rfl
          | [_, _], hl => exact absurd rfl hl
          | _ :: _ :: _ :: _, _ => rfl
        refine ACalls.of_body Try.func53 rfl rfl rfl ?_
        simp only [Try.ntmps53, frOf]
        repeat' (first
            | (show AOps _ _ _ _ _ _; first
                | refine AOps.nil ?_
                | refine AOps.plain rfl (W.pure rfl rfl rfl ?_)
                | refine AOps.plain rfl (W.callB rfl rfl rfl rfl rfl (bare_ok 30 o n s ns ks p _ _ _ _ M) rfl rfl (fun _ => ?_) (fun _ => ?_))
                | refine AOps.plain rfl (W.callB rfl rfl rfl rfl rfl (he _ _) rfl rfl (fun _ => ?_) (fun _ => ?_))
                | refine AOps.plain rfl (W.callB rfl rfl rfl rfl rfl (h47) rfl rfl (fun _ => ?_) (fun _ => ?_))
                | refine AOps.plain rfl (W.callB rfl rfl rfl rfl rfl (h63) rfl rfl (fun _ => ?_) (fun _ => ?_))
                | refine AOps.plain rfl (W.cmpF rfl rfl rfl rfl (hne) ?_)
                | refine AOps.plain rfl (W.cmp rfl rfl rfl rfl (fun _ => ?_) (fun _ => ?_))
                | refine W.leave rfl rfl rfl rfl ?_
                | refine AOps.take rfl rfl (W.pure rfl rfl rfl ?_)
                | refine AOps.take rfl rfl (W.callB rfl rfl rfl rfl rfl (bare_ok 30 o n s ns ks p _ _ _ _ M) rfl rfl (fun _ => ?_) (fun _ => ?_))
                | refine AOps.take rfl rfl (W.callB rfl rfl rfl rfl rfl (he _ _) rfl rfl (fun _ => ?_) (fun _ => ?_))
                | refine AOps.take rfl rfl (W.callB rfl rfl rfl rfl rfl (h47) rfl rfl (fun _ => ?_) (fun _ => ?_))
                | refine AOps.take rfl rfl (W.callB rfl rfl rfl rfl rfl (h63) rfl rfl (fun _ => ?_) (fun _ => ?_))
                | refine AOps.take rfl rfl (W.cmpF rfl rfl rfl rfl (hne) ?_)
                | refine AOps.take rfl rfl (W.cmp rfl rfl rfl rfl (fun _ => ?_) (fun _ => ?_))
                | refine AOps.plain rfl (W.boxI rfl rfl rfl rfl rfl rfl ?_)
                | refine AOps.plain rfl (W.build rfl rfl rfl rfl rfl rfl rfl ?_)
                | refine AOps.plain rfl (W.alloc rfl rfl rfl rfl rfl ?_)
                | refine AOps.plain rfl (W.storeL rfl rfl rfl rfl rfl rfl rfl rfl rfl ?_)
                | refine AOps.plain rfl (W.buildSlice rfl rfl rfl rfl rfl rfl rfl rfl rfl ?_))
            | (show AWp _ _ _ _ _; first
                | refine AWp.seq ?_
                | refine AWp.region ?_
                | refine AWp.condT rfl ?_
                | refine AWp.condF rfl ?_
                | refine AWp.skip ?_
                | refine AWp.block ?_
                | refine AWp.exit ?_
                | refine AWp.ret ?_)
            | refine AThen.normal ?_
            | refine AThen.exit ?_
            | refine AThen.ret ?_
            | refine AThen.pan ?_
            | refine AInBlock.pan ?_
            | refine AInBlock.normal ?_
            | refine AInBlock.ret ?_
            | refine AInBlock.same ?_
            | refine AInBlock.other rfl ?_)
        all_goals refine bodyQ.one rfl rfl rfl ⟨?_, rfl⟩
        all_goals (clear he h1 h2 h47 h63 hsm; simp [stmtT, nothing, *])
    · have e28 : (k == 28) = false := by rw [beq_eq_false_iff_ne]; exact hk28
      have e30 : (k == 30) = false := by rw [beq_eq_false_iff_ne]; exact hk30
      refine ACalls.of_body Try.func53 rfl rfl rfl ?_
      simp only [Try.ntmps53, frOf]
      repeat' (first
          | (show AOps _ _ _ _ _ _; first
              | refine AOps.nil ?_
              | refine AOps.plain rfl (W.pure rfl rfl rfl ?_)
              | refine AOps.plain rfl (W.callB rfl rfl rfl rfl rfl (bare_ok k o n s ns ks p _ _ _ _ M) rfl rfl (fun _ => ?_) (fun _ => ?_))
              | refine AOps.plain rfl (W.callB rfl rfl rfl rfl rfl (he _ _) rfl rfl (fun _ => ?_) (fun _ => ?_))
              | refine AOps.plain rfl (W.callB rfl rfl rfl rfl rfl (h47) rfl rfl (fun _ => ?_) (fun _ => ?_))
              | refine AOps.plain rfl (W.callB rfl rfl rfl rfl rfl (h63) rfl rfl (fun _ => ?_) (fun _ => ?_))
              | refine AOps.plain rfl (W.cmpF rfl rfl rfl rfl (e28) ?_)
              | refine AOps.plain rfl (W.cmpF rfl rfl rfl rfl (e30) ?_)
              | refine AOps.plain rfl (W.cmp rfl rfl rfl rfl (fun _ => ?_) (fun _ => ?_))
              | refine W.leave rfl rfl rfl rfl ?_
              | refine AOps.take rfl rfl (W.pure rfl rfl rfl ?_)
              | refine AOps.take rfl rfl (W.callB rfl rfl rfl rfl rfl (bare_ok k o n s ns ks p _ _ _ _ M) rfl rfl (fun _ => ?_) (fun _ => ?_))
              | refine AOps.take rfl rfl (W.callB rfl rfl rfl rfl rfl (he _ _) rfl rfl (fun _ => ?_) (fun _ => ?_))
              | refine AOps.take rfl rfl (W.callB rfl rfl rfl rfl rfl (h47) rfl rfl (fun _ => ?_) (fun _ => ?_))
              | refine AOps.take rfl rfl (W.callB rfl rfl rfl rfl rfl (h63) rfl rfl (fun _ => ?_) (fun _ => ?_))
              | refine AOps.take rfl rfl (W.cmpF rfl rfl rfl rfl (e28) ?_)
              | refine AOps.take rfl rfl (W.cmpF rfl rfl rfl rfl (e30) ?_)
              | refine AOps.take rfl rfl (W.cmp rfl rfl rfl rfl (fun _ => ?_) (fun _ => ?_))
              | refine AOps.plain rfl (W.boxI rfl rfl rfl rfl rfl rfl ?_)
              | refine AOps.plain rfl (W.build rfl rfl rfl rfl rfl rfl rfl ?_)
              | refine AOps.plain rfl (W.alloc rfl rfl rfl rfl rfl ?_)
              | refine AOps.plain rfl (W.storeL rfl rfl rfl rfl rfl rfl rfl rfl rfl ?_)
              | refine AOps.plain rfl (W.buildSlice rfl rfl rfl rfl rfl rfl rfl rfl rfl ?_))
          | (show AWp _ _ _ _ _; first
              | refine AWp.seq ?_
              | refine AWp.region ?_
              | refine AWp.condT rfl ?_
              | refine AWp.condF rfl ?_
              | refine AWp.skip ?_
              | refine AWp.block ?_
              | refine AWp.exit ?_
              | refine AWp.ret ?_)
          | refine AThen.normal ?_
          | refine AThen.exit ?_
          | refine AThen.ret ?_
          | refine AThen.pan ?_
          | refine AInBlock.pan ?_
          | refine AInBlock.normal ?_
          | refine AInBlock.ret ?_
          | refine AInBlock.same ?_
          | refine AInBlock.other rfl ?_)
      all_goals refine bodyQ.one rfl rfl rfl ⟨?_, rfl⟩
      all_goals (clear he h1 h2 h47 h63 hsm; simp [stmtT, nothing, *])

end Go.Proofs.Ytceocfancfjdjaa
