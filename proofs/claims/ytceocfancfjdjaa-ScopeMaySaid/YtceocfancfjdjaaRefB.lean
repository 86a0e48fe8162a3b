/- (D) The given reference: signs, built-in calls, how many parts a node has, how big and how high a tree is. No condition. -/
import Derived.Test.YtceocfancfjdjaaRefA
namespace Go.Proofs.Ytceocfancfjdjaa
open Go Go.RowKit
attribute [local irreducible] ACalls AOps AOp AWp AWpL AThen AInBlock bodyQ seq DOps

set_option maxHeartbeats 2000000 in
theorem refSign_ok (op : Int) : Ans 36 [.int .i64 op] (.str (signS op)) := by
  intro M
  refine ACalls.of_body Try.func36 rfl rfl rfl ?_
  simp only [Try.ntmps36, frOf]
  by_cases h1 : op < 1
  · repeat' (first
      | (show DOps _ _ _ _ _ _ _ _ _ _ _; first
          | refine D.end ?_
          | refine D.val (.inl rfl) rfl rfl rfl ?_
          | refine D.leave rfl rfl rfl rfl ?_
          | refine D.val (Wants.take rfl rfl) rfl rfl rfl ?_
          | refine (D.cmpT rfl (.inl rfl) rfl rfl rfl (decide_eq_true h1) ?_)
          | refine D.cmp rfl (.inl rfl) rfl rfl rfl (fun _ => ?_) (fun _ => ?_)
          | refine D.valO (.inl rfl) rfl rfl rfl rfl ?_
          | refine D.build (.inl rfl) rfl rfl rfl rfl rfl rfl rfl ?_
          | refine D.buildSlice (.inl rfl) rfl rfl rfl rfl rfl rfl rfl rfl rfl ?_
          | refine (D.cmpT rfl (Wants.take rfl rfl) rfl rfl rfl (decide_eq_true h1) ?_)
          | refine D.cmp rfl (Wants.take rfl rfl) rfl rfl rfl (fun _ => ?_) (fun _ => ?_)
          | refine D.valO (Wants.take rfl rfl) rfl rfl rfl rfl ?_
          | refine D.build (Wants.take rfl rfl) rfl rfl rfl rfl rfl rfl rfl ?_
          | refine D.buildSlice (Wants.take rfl rfl) rfl rfl rfl rfl rfl rfl rfl rfl rfl ?_)
      | (show AOps _ _ _ _ _ _; first
          | refine AOps.nil ?_
          | refine AOps.plain rfl (W.pure rfl rfl rfl ?_)
          | refine AOps.plain rfl (W.cmpT rfl rfl rfl rfl (decide_eq_true h1) ?_)
          | refine AOps.plain rfl (W.cmp rfl rfl rfl rfl (fun _ => ?_) (fun _ => ?_))
          | refine W.leave rfl rfl rfl rfl ?_
          | refine AOps.take rfl rfl (W.pure rfl rfl rfl ?_)
          | refine AOps.take rfl rfl (W.cmpT rfl rfl rfl rfl (decide_eq_true h1) ?_)
          | refine AOps.take rfl rfl (W.cmp rfl rfl rfl rfl (fun _ => ?_) (fun _ => ?_))
          | refine AOps.plain rfl (W.boxI rfl rfl rfl rfl rfl rfl ?_)
          | refine AOps.plain rfl (W.build rfl rfl rfl rfl rfl rfl rfl ?_)
          | refine AOps.plain rfl (W.alloc rfl rfl rfl rfl rfl ?_)
          | refine AOps.plain rfl (W.storeL rfl rfl rfl rfl rfl rfl rfl rfl rfl ?_)
          | refine AOps.plain rfl (W.buildSlice rfl rfl rfl rfl rfl rfl rfl rfl rfl ?_))
      | (show AWp _ _ _ _ _; first
          | refine AWp.seq ?_
          | refine AWp.region ?_
          | refine AWp.condT rfl ?_
          | refine AWp.condF rfl ?_
          | refine AWp.skip ?_
          | refine AWp.block ?_
          | refine AWp.exit ?_
          | refine AWp.ret ?_
          | refine AWp.draw0 (by kernel_rfl) ?_)
      | refine AThen.normal ?_
      | refine AThen.exit ?_
      | refine AThen.ret ?_
      | refine AThen.pan ?_
      | refine AInBlock.pan ?_
      | refine AInBlock.normal ?_
      | refine AInBlock.ret ?_
      | refine AInBlock.same ?_
      | refine AInBlock.other rfl ?_)
    refine bodyQ.one rfl rfl rfl ⟨?_, rfl⟩
    have : ¬ (1 ≤ op ∧ op < 12) := by omega
    simp [signS, this, nothing]
  · by_cases h2 : 11 < op
    · repeat' (first
        | (show DOps _ _ _ _ _ _ _ _ _ _ _; first
            | refine D.end ?_
            | refine D.val (.inl rfl) rfl rfl rfl ?_
            | refine D.leave rfl rfl rfl rfl ?_
            | refine D.val (Wants.take rfl rfl) rfl rfl rfl ?_
            | refine (D.cmpF rfl (.inl rfl) rfl rfl rfl (decide_eq_false h1) ?_)
            | refine (D.cmpT rfl (.inl rfl) rfl rfl rfl (decide_eq_true h2) ?_)
            | refine D.cmp rfl (.inl rfl) rfl rfl rfl (fun _ => ?_) (fun _ => ?_)
            | refine D.valO (.inl rfl) rfl rfl rfl rfl ?_
            | refine D.build (.inl rfl) rfl rfl rfl rfl rfl rfl rfl ?_
            | refine D.buildSlice (.inl rfl) rfl rfl rfl rfl rfl rfl rfl rfl rfl ?_
            | refine (D.cmpF rfl (Wants.take rfl rfl) rfl rfl rfl (decide_eq_false h1) ?_)
            | refine (D.cmpT rfl (Wants.take rfl rfl) rfl rfl rfl (decide_eq_true h2) ?_)
            | refine D.cmp rfl (Wants.take rfl rfl) rfl rfl rfl (fun _ => ?_) (fun _ => ?_)
            | refine D.valO (Wants.take rfl rfl) rfl rfl rfl rfl ?_
            | refine D.build (Wants.take rfl rfl) rfl rfl rfl rfl rfl rfl rfl ?_
            | refine D.buildSlice (Wants.take rfl rfl) rfl rfl rfl rfl rfl rfl rfl rfl rfl ?_)
        | (show AOps _ _ _ _ _ _; first
            | refine AOps.nil ?_
            | refine AOps.plain rfl (W.pure rfl rfl rfl ?_)
            | refine AOps.plain rfl (W.cmpF rfl rfl rfl rfl (decide_eq_false h1) ?_)
            | refine AOps.plain rfl (W.cmpT rfl rfl rfl rfl (decide_eq_true h2) ?_)
            | refine AOps.plain rfl (W.cmp rfl rfl rfl rfl (fun _ => ?_) (fun _ => ?_))
            | refine W.leave rfl rfl rfl rfl ?_
            | refine AOps.take rfl rfl (W.pure rfl rfl rfl ?_)
            | refine AOps.take rfl rfl (W.cmpF rfl rfl rfl rfl (decide_eq_false h1) ?_)
            | refine AOps.take rfl rfl (W.cmpT rfl rfl rfl rfl (decide_eq_true h2) ?_)
            | refine AOps.take rfl rfl (W.cmp rfl rfl rfl rfl (fun _ => ?_) (fun _ => ?_))
            | refine AOps.plain rfl (W.boxI rfl rfl rfl rfl rfl rfl ?_)
            | refine AOps.plain rfl (W.build rfl rfl rfl rfl rfl rfl rfl ?_)
            | refine AOps.plain rfl (W.alloc rfl rfl rfl rfl rfl ?_)
            | refine AOps.plain rfl (W.storeL rfl rfl rfl rfl rfl rfl rfl rfl rfl ?_)
            | refine AOps.plain rfl (W.buildSlice rfl rfl rfl rfl rfl rfl rfl rfl rfl ?_))
        | (show AWp _ _ _ _ _; first
            | refine AWp.seq ?_
            | refine AWp.region ?_
            | refine AWp.condT rfl ?_
            | refine AWp.condF rfl ?_
            | refine AWp.skip ?_
            | refine AWp.block ?_
            | refine AWp.exit ?_
            | refine AWp.ret ?_
            | refine AWp.draw0 (by kernel_rfl) ?_)
        | refine AThen.normal ?_
        | refine AThen.exit ?_
        | refine AThen.ret ?_
        | refine AThen.pan ?_
        | refine AInBlock.pan ?_
        | refine AInBlock.normal ?_
        | refine AInBlock.ret ?_
        | refine AInBlock.same ?_
        | refine AInBlock.other rfl ?_)
      refine bodyQ.one rfl rfl rfl ⟨?_, rfl⟩
      have : ¬ (1 ≤ op ∧ op < 12) := by omega
      simp [signS, this, nothing]
    · have h3 : op = 1 ∨ op = 2 ∨ op = 3 ∨ op = 4 ∨ op = 5 ∨ op = 6 ∨ op = 7 ∨ op = 8 ∨ op = 9 ∨ op = 10 ∨ op = 11 := by omega
      rcases h3 with rfl | rfl | rfl | rfl | rfl | rfl | rfl | rfl | rfl | rfl | rfl
      all_goals repeat' (first
          | (show DOps _ _ _ _ _ _ _ _ _ _ _; first
              | refine D.end ?_
              | refine D.val (.inl rfl) rfl rfl rfl ?_
              | refine D.leave rfl rfl rfl rfl ?_
              | refine D.val (Wants.take rfl rfl) rfl rfl rfl ?_
              | refine D.cmp rfl (.inl rfl) rfl rfl rfl (fun _ => ?_) (fun _ => ?_)
              | refine D.valO (.inl rfl) rfl rfl rfl rfl ?_
              | refine D.build (.inl rfl) rfl rfl rfl rfl rfl rfl rfl ?_
              | refine D.buildSlice (.inl rfl) rfl rfl rfl rfl rfl rfl rfl rfl rfl ?_
              | refine D.cmp rfl (Wants.take rfl rfl) rfl rfl rfl (fun _ => ?_) (fun _ => ?_)
              | refine D.valO (Wants.take rfl rfl) rfl rfl rfl rfl ?_
              | refine D.build (Wants.take rfl rfl) rfl rfl rfl rfl rfl rfl rfl ?_
              | refine D.buildSlice (Wants.take rfl rfl) rfl rfl rfl rfl rfl rfl rfl rfl rfl ?_)
          | (show AOps _ _ _ _ _ _; first
              | refine AOps.nil ?_
              | refine AOps.plain rfl (W.pure rfl rfl rfl ?_)
              | refine AOps.plain rfl (W.indexAddr rfl rfl rfl rfl rfl rfl (by decide) (by decide) (by intro h; cases h) ?_)
              | refine AOps.plain rfl (W.cmp rfl rfl rfl rfl (fun _ => ?_) (fun _ => ?_))
              | refine W.leave rfl rfl rfl rfl ?_
              | refine AOps.take rfl rfl (W.pure rfl rfl rfl ?_)
              | refine AOps.take rfl rfl (W.indexAddr rfl rfl rfl rfl rfl rfl (by decide) (by decide) (by intro h; cases h) ?_)
              | refine AOps.take rfl rfl (W.cmp rfl rfl rfl rfl (fun _ => ?_) (fun _ => ?_))
              | refine AOps.plain rfl (W.boxI rfl rfl rfl rfl rfl rfl ?_)
              | refine AOps.plain rfl (W.build rfl rfl rfl rfl rfl rfl rfl ?_)
              | refine AOps.plain rfl (W.alloc rfl rfl rfl rfl rfl ?_)
              | refine AOps.plain rfl (W.storeL rfl rfl rfl rfl rfl rfl rfl rfl rfl ?_)
              | refine AOps.plain rfl (W.buildSlice rfl rfl rfl rfl rfl rfl rfl rfl rfl ?_))
          | (show AWp _ _ _ _ _; first
              | refine AWp.seq ?_
              | refine AWp.region ?_
              | refine AWp.condT rfl ?_
              | refine AWp.condF rfl ?_
              | refine AWp.skip ?_
              | refine AWp.block ?_
              | refine AWp.exit ?_
              | refine AWp.ret ?_
              | refine AWp.draw0 (by kernel_rfl) ?_)
          | refine AThen.normal ?_
          | refine AThen.exit ?_
          | refine AThen.ret ?_
          | refine AThen.pan ?_
          | refine AInBlock.pan ?_
          | refine AInBlock.normal ?_
          | refine AInBlock.ret ?_
          | refine AInBlock.same ?_
          | refine AInBlock.other rfl ?_)
      all_goals exact bodyQ.one rfl rfl rfl ⟨rfl, rfl⟩

set_option maxHeartbeats 2000000 in
theorem refBuilt_ok (op : Int) : Ans 35 [.int .i64 op] (.tuple [.str (builtS op), .int .i64 (builtN op)]) := by
  intro M
  refine ACalls.of_body Try.func35 rfl rfl rfl ?_
  simp only [Try.ntmps35, frOf]
  by_cases h1 : op < 1
  · repeat' (first
      | (show DOps _ _ _ _ _ _ _ _ _ _ _; first
          | refine D.end ?_
          | refine D.val (.inl rfl) rfl rfl rfl ?_
          | refine D.leave rfl rfl rfl rfl ?_
          | refine D.val (Wants.take rfl rfl) rfl rfl rfl ?_
          | refine (D.cmpT rfl (.inl rfl) rfl rfl rfl (decide_eq_true h1) ?_)
          | refine D.cmp rfl (.inl rfl) rfl rfl rfl (fun _ => ?_) (fun _ => ?_)
          | refine D.valO (.inl rfl) rfl rfl rfl rfl ?_
          | refine D.build (.inl rfl) rfl rfl rfl rfl rfl rfl rfl ?_
          | refine D.buildSlice (.inl rfl) rfl rfl rfl rfl rfl rfl rfl rfl rfl ?_
          | refine (D.cmpT rfl (Wants.take rfl rfl) rfl rfl rfl (decide_eq_true h1) ?_)
          | refine D.cmp rfl (Wants.take rfl rfl) rfl rfl rfl (fun _ => ?_) (fun _ => ?_)
          | refine D.valO (Wants.take rfl rfl) rfl rfl rfl rfl ?_
          | refine D.build (Wants.take rfl rfl) rfl rfl rfl rfl rfl rfl rfl ?_
          | refine D.buildSlice (Wants.take rfl rfl) rfl rfl rfl rfl rfl rfl rfl rfl rfl ?_)
      | (show AOps _ _ _ _ _ _; first
          | refine AOps.nil ?_
          | refine AOps.plain rfl (W.pure rfl rfl rfl ?_)
          | refine AOps.plain rfl (W.cmpT rfl rfl rfl rfl (decide_eq_true h1) ?_)
          | refine AOps.plain rfl (W.cmp rfl rfl rfl rfl (fun _ => ?_) (fun _ => ?_))
          | refine W.leave rfl rfl rfl rfl ?_
          | refine AOps.take rfl rfl (W.pure rfl rfl rfl ?_)
          | refine AOps.take rfl rfl (W.cmpT rfl rfl rfl rfl (decide_eq_true h1) ?_)
          | refine AOps.take rfl rfl (W.cmp rfl rfl rfl rfl (fun _ => ?_) (fun _ => ?_))
          | refine AOps.plain rfl (W.boxI rfl rfl rfl rfl rfl rfl ?_)
          | refine AOps.plain rfl (W.build rfl rfl rfl rfl rfl rfl rfl ?_)
          | refine AOps.plain rfl (W.alloc rfl rfl rfl rfl rfl ?_)
          | refine AOps.plain rfl (W.storeL rfl rfl rfl rfl rfl rfl rfl rfl rfl ?_)
          | refine AOps.plain rfl (W.buildSlice rfl rfl rfl rfl rfl rfl rfl rfl rfl ?_))
      | (show AWp _ _ _ _ _; first
          | refine AWp.seq ?_
          | refine AWp.region ?_
          | refine AWp.condT rfl ?_
          | refine AWp.condF rfl ?_
          | refine AWp.skip ?_
          | refine AWp.block ?_
          | refine AWp.exit ?_
          | refine AWp.ret ?_
          | refine AWp.draw0 (by kernel_rfl) ?_)
      | refine AThen.normal ?_
      | refine AThen.exit ?_
      | refine AThen.ret ?_
      | refine AThen.pan ?_
      | refine AInBlock.pan ?_
      | refine AInBlock.normal ?_
      | refine AInBlock.ret ?_
      | refine AInBlock.same ?_
      | refine AInBlock.other rfl ?_)
    refine bodyQ.two rfl rfl rfl rfl rfl ⟨?_, rfl⟩
    have h : ¬ op = 1 ∧ ¬ op = 2 ∧ ¬ op = 3 ∧ ¬ op = 4 ∧ ¬ op = 5 ∧ ¬ op = 6 ∧ ¬ op = 7 := by omega
    simp [builtS, builtN, h, nothing]
  · by_cases h2 : 7 < op
    · repeat' (first
        | (show DOps _ _ _ _ _ _ _ _ _ _ _; first
            | refine D.end ?_
            | refine D.val (.inl rfl) rfl rfl rfl ?_
            | refine D.leave rfl rfl rfl rfl ?_
            | refine D.val (Wants.take rfl rfl) rfl rfl rfl ?_
            | refine (D.cmpF rfl (.inl rfl) rfl rfl rfl (decide_eq_false h1) ?_)
            | refine (D.cmpT rfl (.inl rfl) rfl rfl rfl (decide_eq_true h2) ?_)
            | refine D.cmp rfl (.inl rfl) rfl rfl rfl (fun _ => ?_) (fun _ => ?_)
            | refine D.valO (.inl rfl) rfl rfl rfl rfl ?_
            | refine D.build (.inl rfl) rfl rfl rfl rfl rfl rfl rfl ?_
            | refine D.buildSlice (.inl rfl) rfl rfl rfl rfl rfl rfl rfl rfl rfl ?_
            | refine (D.cmpF rfl (Wants.take rfl rfl) rfl rfl rfl (decide_eq_false h1) ?_)
            | refine (D.cmpT rfl (Wants.take rfl rfl) rfl rfl rfl (decide_eq_true h2) ?_)
            | refine D.cmp rfl (Wants.take rfl rfl) rfl rfl rfl (fun _ => ?_) (fun _ => ?_)
            | refine D.valO (Wants.take rfl rfl) rfl rfl rfl rfl ?_
            | refine D.build (Wants.take rfl rfl) rfl rfl rfl rfl rfl rfl rfl ?_
            | refine D.buildSlice (Wants.take rfl rfl) rfl rfl rfl rfl rfl rfl rfl rfl rfl ?_)
        | (show AOps _ _ _ _ _ _; first
            | refine AOps.nil ?_
            | refine AOps.plain rfl (W.pure rfl rfl rfl ?_)
            | refine AOps.plain rfl (W.cmpF rfl rfl rfl rfl (decide_eq_false h1) ?_)
            | refine AOps.plain rfl (W.cmpT rfl rfl rfl rfl (decide_eq_true h2) ?_)
            | refine AOps.plain rfl (W.cmp rfl rfl rfl rfl (fun _ => ?_) (fun _ => ?_))
            | refine W.leave rfl rfl rfl rfl ?_
            | refine AOps.take rfl rfl (W.pure rfl rfl rfl ?_)
            | refine AOps.take rfl rfl (W.cmpF rfl rfl rfl rfl (decide_eq_false h1) ?_)
            | refine AOps.take rfl rfl (W.cmpT rfl rfl rfl rfl (decide_eq_true h2) ?_)
            | refine AOps.take rfl rfl (W.cmp rfl rfl rfl rfl (fun _ => ?_) (fun _ => ?_))
            | refine AOps.plain rfl (W.boxI rfl rfl rfl rfl rfl rfl ?_)
            | refine AOps.plain rfl (W.build rfl rfl rfl rfl rfl rfl rfl ?_)
            | refine AOps.plain rfl (W.alloc rfl rfl rfl rfl rfl ?_)
            | refine AOps.plain rfl (W.storeL rfl rfl rfl rfl rfl rfl rfl rfl rfl ?_)
            | refine AOps.plain rfl (W.buildSlice rfl rfl rfl rfl rfl rfl rfl rfl rfl ?_))
        | (show AWp _ _ _ _ _; first
            | refine AWp.seq ?_
            | refine AWp.region ?_
            | refine AWp.condT rfl ?_
            | refine AWp.condF rfl ?_
            | refine AWp.skip ?_
            | refine AWp.block ?_
            | refine AWp.exit ?_
            | refine AWp.ret ?_
            | refine AWp.draw0 (by kernel_rfl) ?_)
        | refine AThen.normal ?_
        | refine AThen.exit ?_
        | refine AThen.ret ?_
        | refine AThen.pan ?_
        | refine AInBlock.pan ?_
        | refine AInBlock.normal ?_
        | refine AInBlock.ret ?_
        | refine AInBlock.same ?_
        | refine AInBlock.other rfl ?_)
      refine bodyQ.two rfl rfl rfl rfl rfl ⟨?_, rfl⟩
      have h : ¬ op = 1 ∧ ¬ op = 2 ∧ ¬ op = 3 ∧ ¬ op = 4 ∧ ¬ op = 5 ∧ ¬ op = 6 ∧ ¬ op = 7 := by omega
      simp [builtS, builtN, h, nothing]
    · have h3 : op = 1 ∨ op = 2 ∨ op = 3 ∨ op = 4 ∨ op = 5 ∨ op = 6 ∨ op = 7 := by omega
      rcases h3 with rfl | rfl | rfl | rfl | rfl | rfl | rfl
      all_goals repeat' (first
          | (show DOps _ _ _ _ _ _ _ _ _ _ _; first
              | refine D.end ?_
              | refine D.val (.inl rfl) rfl rfl rfl ?_
              | refine D.leave rfl rfl rfl rfl ?_
              | refine D.val (Wants.take rfl rfl) rfl rfl rfl ?_
              | refine D.cmp rfl (.inl rfl) rfl rfl rfl (fun _ => ?_) (fun _ => ?_)
              | refine D.valO (.inl rfl) rfl rfl rfl rfl ?_
              | refine D.build (.inl rfl) rfl rfl rfl rfl rfl rfl rfl ?_
              | refine D.buildSlice (.inl rfl) rfl rfl rfl rfl rfl rfl rfl rfl rfl ?_
              | refine D.cmp rfl (Wants.take rfl rfl) rfl rfl rfl (fun _ => ?_) (fun _ => ?_)
              | refine D.valO (Wants.take rfl rfl) rfl rfl rfl rfl ?_
              | refine D.build (Wants.take rfl rfl) rfl rfl rfl rfl rfl rfl rfl ?_
              | refine D.buildSlice (Wants.take rfl rfl) rfl rfl rfl rfl rfl rfl rfl rfl rfl ?_)
          | (show AOps _ _ _ _ _ _; first
              | refine AOps.nil ?_
              | refine AOps.plain rfl (W.pure rfl rfl rfl ?_)
              | refine AOps.plain rfl (W.indexAddr rfl rfl rfl rfl rfl rfl (by decide) (by decide) (by intro h; cases h) ?_)
              | refine AOps.plain rfl (W.cmp rfl rfl rfl rfl (fun _ => ?_) (fun _ => ?_))
              | refine W.leave rfl rfl rfl rfl ?_
              | refine AOps.take rfl rfl (W.pure rfl rfl rfl ?_)
              | refine AOps.take rfl rfl (W.indexAddr rfl rfl rfl rfl rfl rfl (by decide) (by decide) (by intro h; cases h) ?_)
              | refine AOps.take rfl rfl (W.cmp rfl rfl rfl rfl (fun _ => ?_) (fun _ => ?_))
              | refine AOps.plain rfl (W.boxI rfl rfl rfl rfl rfl rfl ?_)
              | refine AOps.plain rfl (W.build rfl rfl rfl rfl rfl rfl rfl ?_)
              | refine AOps.plain rfl (W.alloc rfl rfl rfl rfl rfl ?_)
              | refine AOps.plain rfl (W.storeL rfl rfl rfl rfl rfl rfl rfl rfl rfl ?_)
              | refine AOps.plain rfl (W.buildSlice rfl rfl rfl rfl rfl rfl rfl rfl rfl ?_))
          | (show AWp _ _ _ _ _; first
              | refine AWp.seq ?_
              | refine AWp.region ?_
              | refine AWp.condT rfl ?_
              | refine AWp.condF rfl ?_
              | refine AWp.skip ?_
              | refine AWp.block ?_
              | refine AWp.exit ?_
              | refine AWp.ret ?_
              | refine AWp.draw0 (by kernel_rfl) ?_)
          | refine AThen.normal ?_
          | refine AThen.exit ?_
          | refine AThen.ret ?_
          | refine AThen.pan ?_
          | refine AInBlock.pan ?_
          | refine AInBlock.normal ?_
          | refine AInBlock.ret ?_
          | refine AInBlock.same ?_
          | refine AInBlock.other rfl ?_)
      all_goals exact bodyQ.two rfl rfl rfl rfl rfl ⟨rfl, rfl⟩

/-! ### how big -/
mutual
def leftT : Tree → Int → Int → Int
  | .mk _ _ _ s ns ks _, most, high => if high == 0 || decide ((s.size : Int) > 600) || decide ((ns.length : Int) > 60) then -1
    else if ns.any (fun x => decide ((x.size : Int) > 100)) then -1 else leftsT ks (most - 1) (high - 1)
def leftsT : List Tree → Int → Int → Int
  | [], m, _ => m
  | t :: r, m, h => if m ≥ 0 then leftsT r (leftT t m h) h else m
end

theorem leftsT_neg (l : List Tree) {m h : Int} (hm : ¬ m ≥ 0) : leftsT l m h = m := by
  cases l with
  | nil => rfl
  | cons t r => simp only [leftsT, hm, if_false]

mutual
theorem leftT_le : ∀ (t : Tree) (m h : Int), 0 ≤ m → -1 ≤ leftT t m h ∧ leftT t m h < m
  | .mk _ _ _ s ns ks _, m, h, hm => by
    simp only [leftT]
    have := leftsT_le ks (m - 1) (h - 1) (by omega)
    split
    · omega
    · split <;> omega
theorem leftsT_le : ∀ (l : List Tree) (m h : Int), -1 ≤ m → -1 ≤ leftsT l m h ∧ leftsT l m h ≤ m
  | [], m, h, hm => by simp only [leftsT]; omega
  | t :: r, m, h, hm => by
    simp only [leftsT]
    split
    · rename_i h0
      have h1 := leftT_le t m h h0
      have h2 := leftsT_le r (leftT t m h) h h1.1
      omega
    · omega
end

theorem leftsT_drop (l : List Tree) {k : Nat} (h : k < l.length) {m g : Int} (hm : m ≥ 0) : leftsT (l.drop k) m g = leftsT (l.drop (k + 1)) (leftT l[k] m g) g := by
  rw [List.drop_eq_getElem_cons h]
  simp only [leftsT, hm, if_true]

theorem wrapS {k : Int} (h0 : -4611686018427387904 < k) (h1 : k < 4611686018427387904) : IntKind.i64.wrap (k - 1) = k - 1 := by rw [IntKind.wrap_i64]; omega

set_option maxHeartbeats 8000000 in
theorem left_ok (t : Tree) : t.small → ∀ m h : Int, 0 ≤ m → m ≤ 300 → 0 ≤ h → h ≤ 40 → Ans 13 [t.cv, .int .i64 m, .int .i64 h] (.int .i64 (leftT t m h)) := by
  induction t using Tree.ind with
  | h k o n s ns ks p ih =>
    intro hsm m h hm0 hm1 hh0 hh1 M
    have hws := wrapS (k := m) (by omega) (by omega)
    have hwh := wrapS (k := h) (by omega) (by omega)
    obtain ⟨hs1, hs2, hs3, hs4, hs5⟩ := hsm
    refine ACalls.of_body Try.func13 rfl rfl rfl ?_
    simp only [Try.ntmps13, frOf]
    cases hb : (h == 0 || decide ((s.size : Int) > 600) || decide ((ns.length : Int) > 60)) with
    | true =>
      have hres : leftT (Tree.mk k o n s ns ks p) m h = -1 := by simp only [leftT, hb, if_true]
      repeat' (first
          | (show DOps _ _ _ _ _ _ _ _ _ _ _; first
              | refine D.end ?_
              | refine D.val (.inl rfl) rfl rfl rfl ?_
              | refine D.leave rfl rfl rfl rfl ?_
              | refine D.val (Wants.take rfl rfl) rfl rfl rfl ?_
              | refine D.cmp rfl (.inl rfl) rfl rfl rfl (fun _ => ?_) (fun _ => ?_)
              | refine D.valO (.inl rfl) rfl rfl rfl rfl ?_
              | refine D.build (.inl rfl) rfl rfl rfl rfl rfl rfl rfl ?_
              | refine D.buildSlice (.inl rfl) rfl rfl rfl rfl rfl rfl rfl rfl rfl ?_
              | refine D.cmp rfl (Wants.take rfl rfl) rfl rfl rfl (fun _ => ?_) (fun _ => ?_)
              | refine D.valO (Wants.take rfl rfl) rfl rfl rfl rfl ?_
              | refine D.build (Wants.take rfl rfl) rfl rfl rfl rfl rfl rfl rfl ?_
              | refine D.buildSlice (Wants.take rfl rfl) rfl rfl rfl rfl rfl rfl rfl rfl rfl ?_)
          | (show AOps _ _ _ _ _ _; first
              | refine AOps.nil ?_
              | refine AOps.plain rfl (W.pure rfl rfl rfl ?_)
              | refine AOps.plain rfl (W.cmp rfl rfl rfl rfl (fun _ => ?_) (fun _ => ?_))
              | refine W.leave rfl rfl rfl rfl ?_
              | refine AOps.take rfl rfl (W.pure rfl rfl rfl ?_)
              | refine AOps.take rfl rfl (W.cmp rfl rfl rfl rfl (fun _ => ?_) (fun _ => ?_))
              | refine AOps.plain rfl (W.boxI rfl rfl rfl rfl rfl rfl ?_)
              | refine AOps.plain rfl (W.build rfl rfl rfl rfl rfl rfl rfl ?_)
              | refine AOps.plain rfl (W.alloc rfl rfl rfl rfl rfl ?_)
              | refine AOps.plain rfl (W.storeL rfl rfl rfl rfl rfl rfl rfl rfl rfl ?_)
              | refine AOps.plain rfl (W.buildSlice rfl rfl rfl rfl rfl rfl rfl rfl rfl ?_))
          | (show AWp _ _ _ _ _; first
              | refine AWp.seq ?_
              | refine AWp.region ?_
              | refine AWp.condT rfl ?_
              | refine AWp.condF rfl ?_
              | refine AWp.skip ?_
              | refine AWp.block ?_
              | refine AWp.exit ?_
              | refine AWp.ret ?_
              | refine AWp.draw0 (by kernel_rfl) ?_)
          | refine AThen.normal ?_
          | refine AThen.exit ?_
          | refine AThen.ret ?_
          | refine AThen.pan ?_
          | refine AInBlock.pan ?_
          | refine AInBlock.normal ?_
          | refine AInBlock.ret ?_
          | refine AInBlock.same ?_
          | refine AInBlock.other rfl ?_)
      all_goals first
        | (refine bodyQ.one rfl rfl rfl ⟨?_, rfl⟩; rw [hres])
        | (exfalso; simp_all; done)
    | false =>
      have hb1 : (h == 0) = false := by cases hq : (h == 0) <;> simp_all
      have hb2 : decide ((s.size : Int) > 600) = false := by cases hq : decide ((s.size : Int) > 600) <;> simp_all
      have hb3 : decide ((ns.length : Int) > 60) = false := by cases hq : decide ((ns.length : Int) > 60) <;> simp_all
      have hhp : ¬ h = 0 := by simpa using hb1
      repeat' (first
          | (show DOps _ _ _ _ _ _ _ _ _ _ _; first
              | refine D.end ?_
              | refine D.val (.inl rfl) rfl rfl rfl ?_
              | refine D.leave rfl rfl rfl rfl ?_
              | refine D.val (Wants.take rfl rfl) rfl rfl rfl ?_
              | refine (D.cmpF rfl (.inl rfl) rfl rfl rfl (hb1) ?_)
              | refine (D.cmpF rfl (.inl rfl) rfl rfl rfl (hb2) ?_)
              | refine (D.cmpF rfl (.inl rfl) rfl rfl rfl (hb3) ?_)
              | refine D.cmp rfl (.inl rfl) rfl rfl rfl (fun _ => ?_) (fun _ => ?_)
              | refine D.valO (.inl rfl) rfl rfl rfl rfl ?_
              | refine D.build (.inl rfl) rfl rfl rfl rfl rfl rfl rfl ?_
              | refine D.buildSlice (.inl rfl) rfl rfl rfl rfl rfl rfl rfl rfl rfl ?_
              | refine (D.cmpF rfl (Wants.take rfl rfl) rfl rfl rfl (hb1) ?_)
              | refine (D.cmpF rfl (Wants.take rfl rfl) rfl rfl rfl (hb2) ?_)
              | refine (D.cmpF rfl (Wants.take rfl rfl) rfl rfl rfl (hb3) ?_)
              | refine D.cmp rfl (Wants.take rfl rfl) rfl rfl rfl (fun _ => ?_) (fun _ => ?_)
              | refine D.valO (Wants.take rfl rfl) rfl rfl rfl rfl ?_
              | refine D.build (Wants.take rfl rfl) rfl rfl rfl rfl rfl rfl rfl ?_
              | refine D.buildSlice (Wants.take rfl rfl) rfl rfl rfl rfl rfl rfl rfl rfl rfl ?_)
          | (show AOps _ _ _ _ _ _; first
              | refine AOps.nil ?_
              | refine AOps.plain rfl (W.pure rfl rfl rfl ?_)
              | refine AOps.plain rfl (W.cmpF rfl rfl rfl rfl (hb1) ?_)
              | refine AOps.plain rfl (W.cmpF rfl rfl rfl rfl (hb2) ?_)
              | refine AOps.plain rfl (W.cmpF rfl rfl rfl rfl (hb3) ?_)
              | refine AOps.plain rfl (W.cmp rfl rfl rfl rfl (fun _ => ?_) (fun _ => ?_))
              | refine W.leave rfl rfl rfl rfl ?_
              | refine AOps.take rfl rfl (W.pure rfl rfl rfl ?_)
              | refine AOps.take rfl rfl (W.cmpF rfl rfl rfl rfl (hb1) ?_)
              | refine AOps.take rfl rfl (W.cmpF rfl rfl rfl rfl (hb2) ?_)
              | refine AOps.take rfl rfl (W.cmpF rfl rfl rfl rfl (hb3) ?_)
              | refine AOps.take rfl rfl (W.cmp rfl rfl rfl rfl (fun _ => ?_) (fun _ => ?_))
              | refine AOps.plain rfl (W.boxI rfl rfl rfl rfl rfl rfl ?_)
              | refine AOps.plain rfl (W.build rfl rfl rfl rfl rfl rfl rfl ?_)
              | refine AOps.plain rfl (W.alloc rfl rfl rfl rfl rfl ?_)
              | refine AOps.plain rfl (W.storeL rfl rfl rfl rfl rfl rfl rfl rfl rfl ?_)
              | refine AOps.plain rfl (W.buildSlice rfl rfl rfl rfl rfl rfl rfl rfl rfl ?_))
          | (show AWp _ _ _ _ _; first
              | refine AWp.seq ?_
              | refine AWp.region ?_
              | refine AWp.condT rfl ?_
              | refine AWp.condF rfl ?_
              | refine AWp.skip ?_
              | refine AWp.block ?_
              | refine AWp.exit ?_
              | refine AWp.ret ?_
              | refine AWp.draw0 (by kernel_rfl) ?_)
          | refine AThen.normal ?_
          | refine AThen.exit ?_
          | refine AThen.ret ?_
          | refine AThen.pan ?_
          | refine AInBlock.pan ?_
          | refine AInBlock.normal ?_
          | refine AInBlock.ret ?_
          | refine AInBlock.same ?_
          | refine AInBlock.other rfl ?_)
      refine AWp.loop ?_
      refine AWpL.upto (fun j st => ns.any (fun x => decide ((x.size : Int) > 100)) = (ns.drop j).any (fun x => decide ((x.size : Int) > 100)) ∧
        ∃ fr, st = { fr := fr, loc := [], M := M, ds := [] } ∧ Sub fr [(1, .int .i64 m), (2, .int .i64 h), (3, .iptr (Tree.mk k o n s ns ks p).cells 0), (7, .int .i64 (j : Int))]) ns.length ?_ 0 _ (Nat.zero_le _)
        ⟨rfl, _, rfl, rfl, rfl, rfl, rfl, trivial⟩
      rintro j st hj ⟨hpre, fr, rfl, hsub⟩ hnext
      refine AWp.mask hsub ?_
      clear hsub
      by_cases hlt : j < ns.length
      · have hst := any_drop ns (fun x => decide ((x.size : Int) > 100)) hlt
        cases hx : decide ((ns[j].size : Int) > 100) with
        | true =>
          repeat' (first
              | (show DOps _ _ _ _ _ _ _ _ _ _ _; first
                  | refine D.end ?_
                  | refine D.val (.inl rfl) rfl rfl rfl ?_
                  | refine D.leave rfl rfl rfl rfl ?_
                  | refine D.val (Wants.take rfl rfl) rfl rfl rfl ?_
                  | refine (D.cmpT rfl (.inl rfl) rfl rfl rfl (decide_eq_true (by omega)) ?_)
                  | refine (D.cmpT rfl (.inl rfl) rfl rfl rfl (hx) ?_)
                  | refine D.cmp rfl (.inl rfl) rfl rfl rfl (fun _ => ?_) (fun _ => ?_)
                  | refine D.valO (.inl rfl) rfl rfl rfl rfl ?_
                  | refine D.build (.inl rfl) rfl rfl rfl rfl rfl rfl rfl ?_
                  | refine D.buildSlice (.inl rfl) rfl rfl rfl rfl rfl rfl rfl rfl rfl ?_
                  | refine (D.cmpT rfl (Wants.take rfl rfl) rfl rfl rfl (decide_eq_true (by omega)) ?_)
                  | refine (D.cmpT rfl (Wants.take rfl rfl) rfl rfl rfl (hx) ?_)
                  | refine D.cmp rfl (Wants.take rfl rfl) rfl rfl rfl (fun _ => ?_) (fun _ => ?_)
                  | refine D.valO (Wants.take rfl rfl) rfl rfl rfl rfl ?_
                  | refine D.build (Wants.take rfl rfl) rfl rfl rfl rfl rfl rfl rfl ?_
                  | refine D.buildSlice (Wants.take rfl rfl) rfl rfl rfl rfl rfl rfl rfl rfl rfl ?_)
              | (show AOps _ _ _ _ _ _; first
                  | refine AOps.nil ?_
                  | refine AOps.plain rfl (W.pure rfl rfl rfl ?_)
                  | refine AOps.plain rfl (W.cmpT rfl rfl rfl rfl (decide_eq_true (by omega)) ?_)
                  | refine AOps.plain rfl (W.indexAddr rfl rfl rfl rfl rfl rfl (by omega) (by omega) (strs_ne hlt) ?_)
                  | refine AOps.plain rfl (W.loadRow rfl rfl rfl rfl (ld_name hlt) ?_)
                  | refine AOps.plain rfl (W.cmpT rfl rfl rfl rfl (hx) ?_)
                  | refine AOps.plain rfl (W.cmp rfl rfl rfl rfl (fun _ => ?_) (fun _ => ?_))
                  | refine W.leave rfl rfl rfl rfl ?_
                  | refine AOps.take rfl rfl (W.pure rfl rfl rfl ?_)
                  | refine AOps.take rfl rfl (W.cmpT rfl rfl rfl rfl (decide_eq_true (by omega)) ?_)
                  | refine AOps.take rfl rfl (W.indexAddr rfl rfl rfl rfl rfl rfl (by omega) (by omega) (strs_ne hlt) ?_)
                  | refine AOps.take rfl rfl (W.loadRow rfl rfl rfl rfl (ld_name hlt) ?_)
                  | refine AOps.take rfl rfl (W.cmpT rfl rfl rfl rfl (hx) ?_)
                  | refine AOps.take rfl rfl (W.cmp rfl rfl rfl rfl (fun _ => ?_) (fun _ => ?_))
                  | refine AOps.plain rfl (W.boxI rfl rfl rfl rfl rfl rfl ?_)
                  | refine AOps.plain rfl (W.build rfl rfl rfl rfl rfl rfl rfl ?_)
                  | refine AOps.plain rfl (W.alloc rfl rfl rfl rfl rfl ?_)
                  | refine AOps.plain rfl (W.storeL rfl rfl rfl rfl rfl rfl rfl rfl rfl ?_)
                  | refine AOps.plain rfl (W.buildSlice rfl rfl rfl rfl rfl rfl rfl rfl rfl ?_))
              | (show AWp _ _ _ _ _; first
                  | refine AWp.seq ?_
                  | refine AWp.region ?_
                  | refine AWp.condT rfl ?_
                  | refine AWp.condF rfl ?_
                  | refine AWp.skip ?_
                  | refine AWp.block ?_
                  | refine AWp.exit ?_
                  | refine AWp.ret ?_
                  | refine AWp.draw0 (by kernel_rfl) ?_)
              | refine AThen.normal ?_
              | refine AThen.exit ?_
              | refine AThen.ret ?_
              | refine AThen.pan ?_
              | refine AInBlock.pan ?_
              | refine AInBlock.normal ?_
              | refine AInBlock.ret ?_
              | refine AInBlock.same ?_
              | refine AInBlock.other rfl ?_)
          refine bodyQ.one rfl rfl rfl ⟨?_, rfl⟩
          simp only [leftT, hb, hpre, hst, hx]
          rfl
        | false =>
          repeat' (first
              | (show DOps _ _ _ _ _ _ _ _ _ _ _; first
                  | refine D.end ?_
                  | refine D.val (.inl rfl) rfl rfl rfl ?_
                  | refine D.leave rfl rfl rfl rfl ?_
                  | refine D.val (Wants.take rfl rfl) rfl rfl rfl ?_
                  | refine (D.cmpT rfl (.inl rfl) rfl rfl rfl (decide_eq_true (by omega)) ?_)
                  | refine (D.cmpF rfl (.inl rfl) rfl rfl rfl (hx) ?_)
                  | refine D.cmp rfl (.inl rfl) rfl rfl rfl (fun _ => ?_) (fun _ => ?_)
                  | refine D.valO (.inl rfl) rfl rfl rfl rfl ?_
                  | refine D.build (.inl rfl) rfl rfl rfl rfl rfl rfl rfl ?_
                  | refine D.buildSlice (.inl rfl) rfl rfl rfl rfl rfl rfl rfl rfl rfl ?_
                  | refine (D.cmpT rfl (Wants.take rfl rfl) rfl rfl rfl (decide_eq_true (by omega)) ?_)
                  | refine (D.cmpF rfl (Wants.take rfl rfl) rfl rfl rfl (hx) ?_)
                  | refine D.cmp rfl (Wants.take rfl rfl) rfl rfl rfl (fun _ => ?_) (fun _ => ?_)
                  | refine D.valO (Wants.take rfl rfl) rfl rfl rfl rfl ?_
                  | refine D.build (Wants.take rfl rfl) rfl rfl rfl rfl rfl rfl rfl ?_
                  | refine D.buildSlice (Wants.take rfl rfl) rfl rfl rfl rfl rfl rfl rfl rfl rfl ?_)
              | (show AOps _ _ _ _ _ _; first
                  | refine AOps.nil ?_
                  | refine AOps.plain rfl (W.pure rfl rfl rfl ?_)
                  | refine AOps.plain rfl (W.cmpT rfl rfl rfl rfl (decide_eq_true (by omega)) ?_)
                  | refine AOps.plain rfl (W.indexAddr rfl rfl rfl rfl rfl rfl (by omega) (by omega) (strs_ne hlt) ?_)
                  | refine AOps.plain rfl (W.loadRow rfl rfl rfl rfl (ld_name hlt) ?_)
                  | refine AOps.plain rfl (W.cmpF rfl rfl rfl rfl (hx) ?_)
                  | refine AOps.plain rfl (W.cmp rfl rfl rfl rfl (fun _ => ?_) (fun _ => ?_))
                  | refine W.leave rfl rfl rfl rfl ?_
                  | refine AOps.take rfl rfl (W.pure rfl rfl rfl ?_)
                  | refine AOps.take rfl rfl (W.cmpT rfl rfl rfl rfl (decide_eq_true (by omega)) ?_)
                  | refine AOps.take rfl rfl (W.indexAddr rfl rfl rfl rfl rfl rfl (by omega) (by omega) (strs_ne hlt) ?_)
                  | refine AOps.take rfl rfl (W.loadRow rfl rfl rfl rfl (ld_name hlt) ?_)
                  | refine AOps.take rfl rfl (W.cmpF rfl rfl rfl rfl (hx) ?_)
                  | refine AOps.take rfl rfl (W.cmp rfl rfl rfl rfl (fun _ => ?_) (fun _ => ?_))
                  | refine AOps.plain rfl (W.boxI rfl rfl rfl rfl rfl rfl ?_)
                  | refine AOps.plain rfl (W.build rfl rfl rfl rfl rfl rfl rfl ?_)
                  | refine AOps.plain rfl (W.alloc rfl rfl rfl rfl rfl ?_)
                  | refine AOps.plain rfl (W.storeL rfl rfl rfl rfl rfl rfl rfl rfl rfl ?_)
                  | refine AOps.plain rfl (W.buildSlice rfl rfl rfl rfl rfl rfl rfl rfl rfl ?_))
              | (show AWp _ _ _ _ _; first
                  | refine AWp.seq ?_
                  | refine AWp.region ?_
                  | refine AWp.condT rfl ?_
                  | refine AWp.condF rfl ?_
                  | refine AWp.skip ?_
                  | refine AWp.block ?_
                  | refine AWp.exit ?_
                  | refine AWp.ret ?_
                  | refine AWp.draw0 (by kernel_rfl) ?_)
              | refine AThen.normal ?_
              | refine AThen.exit ?_
              | refine AThen.ret ?_
              | refine AThen.pan ?_
              | refine AInBlock.pan ?_
              | refine AInBlock.normal ?_
              | refine AInBlock.ret ?_
              | refine AInBlock.same ?_
              | refine AInBlock.other rfl ?_)
          refine hnext.out _ hlt ⟨?_, _, rfl, rfl, rfl, rfl, subInt (wrapAdd (by omega) (by omega)), trivial⟩
          rw [hpre, hst, hx]; rfl
      · have hno : ns.any (fun x => decide ((x.size : Int) > 100)) = false := by rw [hpre, List.drop_eq_nil_of_le (by omega)]; rfl
        have hres : leftT (Tree.mk k o n s ns ks p) m h = leftsT ks (m - 1) (h - 1) := by simp only [leftT, hb, hno]; rfl
        clear hnext hpre
        repeat' (first
            | (show DOps _ _ _ _ _ _ _ _ _ _ _; first
                | refine D.end ?_
                | refine D.val (.inl rfl) rfl rfl rfl ?_
                | refine D.leave rfl rfl rfl rfl ?_
                | refine D.val (Wants.take rfl rfl) rfl rfl rfl ?_
                | refine (D.cmpF rfl (.inl rfl) rfl rfl rfl (decide_eq_false (by omega)) ?_)
                | refine D.cmp rfl (.inl rfl) rfl rfl rfl (fun _ => ?_) (fun _ => ?_)
                | refine D.valO (.inl rfl) rfl rfl rfl rfl ?_
                | refine D.build (.inl rfl) rfl rfl rfl rfl rfl rfl rfl ?_
                | refine D.buildSlice (.inl rfl) rfl rfl rfl rfl rfl rfl rfl rfl rfl ?_
                | refine (D.cmpF rfl (Wants.take rfl rfl) rfl rfl rfl (decide_eq_false (by omega)) ?_)
                | refine D.cmp rfl (Wants.take rfl rfl) rfl rfl rfl (fun _ => ?_) (fun _ => ?_)
                | refine D.valO (Wants.take rfl rfl) rfl rfl rfl rfl ?_
                | refine D.build (Wants.take rfl rfl) rfl rfl rfl rfl rfl rfl rfl ?_
                | refine D.buildSlice (Wants.take rfl rfl) rfl rfl rfl rfl rfl rfl rfl rfl rfl ?_)
            | (show AOps _ _ _ _ _ _; first
                | refine AOps.nil ?_
                | refine AOps.plain rfl (W.pure rfl rfl rfl ?_)
                | refine AOps.plain rfl (W.cmpF rfl rfl rfl rfl (decide_eq_false (by omega)) ?_)
                | refine AOps.plain rfl (W.cmp rfl rfl rfl rfl (fun _ => ?_) (fun _ => ?_))
                | refine W.leave rfl rfl rfl rfl ?_
                | refine AOps.take rfl rfl (W.pure rfl rfl rfl ?_)
                | refine AOps.take rfl rfl (W.cmpF rfl rfl rfl rfl (decide_eq_false (by omega)) ?_)
                | refine AOps.take rfl rfl (W.cmp rfl rfl rfl rfl (fun _ => ?_) (fun _ => ?_))
                | refine AOps.plain rfl (W.boxI rfl rfl rfl rfl rfl rfl ?_)
                | refine AOps.plain rfl (W.build rfl rfl rfl rfl rfl rfl rfl ?_)
                | refine AOps.plain rfl (W.alloc rfl rfl rfl rfl rfl ?_)
                | refine AOps.plain rfl (W.storeL rfl rfl rfl rfl rfl rfl rfl rfl rfl ?_)
                | refine AOps.plain rfl (W.buildSlice rfl rfl rfl rfl rfl rfl rfl rfl rfl ?_))
            | (show AWp _ _ _ _ _; first
                | refine AWp.seq ?_
                | refine AWp.region ?_
                | refine AWp.condT rfl ?_
                | refine AWp.condF rfl ?_
                | refine AWp.skip ?_
                | refine AWp.block ?_
                | refine AWp.exit ?_
                | refine AWp.ret ?_
                | refine AWp.draw0 (by kernel_rfl) ?_)
            | refine AThen.normal ?_
            | refine AThen.exit ?_
            | refine AThen.ret ?_
            | refine AThen.pan ?_
            | refine AInBlock.pan ?_
            | refine AInBlock.normal ?_
            | refine AInBlock.ret ?_
            | refine AInBlock.same ?_
            | refine AInBlock.other rfl ?_)
        refine AWp.loop ?_
        refine AWpL.upto (fun j st => ∃ c : Int, -1 ≤ c ∧ c ≤ 300 ∧ leftsT ks (m - 1) (h - 1) = leftsT (ks.drop j) c (h - 1) ∧
          ∃ fr, st = { fr := fr, loc := [], M := M, ds := [] } ∧ Sub fr [(1, .int .i64 c), (2, .int .i64 h), (3, .iptr (Tree.mk k o n s ns ks p).cells 0), (8, .int .i64 (j : Int))]) ks.length ?_ 0 _ (Nat.zero_le _)
          ⟨m - 1, by omega, by omega, rfl, _, rfl, subInt hws, rfl, rfl, rfl, trivial⟩
        rintro j st hj ⟨c, hc0, hc1, hpre, fr, rfl, hsub⟩ hnext
        refine AWp.mask hsub ?_
        clear hsub
        by_cases hlt : j < ks.length
        · by_cases hcp : c ≥ 0
          · have hst := leftsT_drop ks hlt (g := h - 1) hcp
            have hle := leftT_le ks[j] c (h - 1) hcp
            have hcall := ih ks[j] (List.getElem_mem _) (smalls_mem hs5 (List.getElem_mem _)) c (h - 1) hcp hc1 (by omega) (by omega) M
            repeat' (first
                | (show DOps _ _ _ _ _ _ _ _ _ _ _; first
                    | refine D.end ?_
                    | refine D.val (.inl rfl) rfl rfl rfl ?_
                    | refine D.leave rfl rfl rfl rfl ?_
                    | refine D.val (Wants.take rfl rfl) rfl rfl rfl ?_
                    | refine (D.cmpT rfl (.inl rfl) rfl rfl rfl (decide_eq_true (by omega)) ?_)
                    | refine (D.cmpT rfl (.inl rfl) rfl rfl rfl (decide_eq_true hcp) ?_)
                    | refine D.cmp rfl (.inl rfl) rfl rfl rfl (fun _ => ?_) (fun _ => ?_)
                    | refine D.valO (.inl rfl) rfl rfl rfl rfl ?_
                    | refine D.build (.inl rfl) rfl rfl rfl rfl rfl rfl rfl ?_
                    | refine D.buildSlice (.inl rfl) rfl rfl rfl rfl rfl rfl rfl rfl rfl ?_
                    | refine (D.cmpT rfl (Wants.take rfl rfl) rfl rfl rfl (decide_eq_true (by omega)) ?_)
                    | refine (D.cmpT rfl (Wants.take rfl rfl) rfl rfl rfl (decide_eq_true hcp) ?_)
                    | refine D.cmp rfl (Wants.take rfl rfl) rfl rfl rfl (fun _ => ?_) (fun _ => ?_)
                    | refine D.valO (Wants.take rfl rfl) rfl rfl rfl rfl ?_
                    | refine D.build (Wants.take rfl rfl) rfl rfl rfl rfl rfl rfl rfl ?_
                    | refine D.buildSlice (Wants.take rfl rfl) rfl rfl rfl rfl rfl rfl rfl rfl rfl ?_)
                | (show AOps _ _ _ _ _ _; first
                    | refine AOps.nil ?_
                    | refine AOps.plain rfl (W.pure rfl rfl rfl ?_)
                    | refine AOps.plain rfl (W.cmpT rfl rfl rfl rfl (decide_eq_true (by omega)) ?_)
                    | refine AOps.plain rfl (W.cmpT rfl rfl rfl rfl (decide_eq_true hcp) ?_)
                    | refine AOps.plain rfl (W.indexAddr rfl rfl rfl rfl rfl rfl (by omega) (by omega) (rows_ne hlt) ?_)
                    | refine AOps.plain rfl (W.loadRow rfl rfl rfl rfl (ld_kid hlt) ?_)
                    | refine AOps.plain rfl (W.callV rfl rfl rfl rfl rfl (by rw [hwh]; exact hcall) (noLs_cv rfl) rfl rfl ?_)
                    | refine AOps.plain rfl (W.cmp rfl rfl rfl rfl (fun _ => ?_) (fun _ => ?_))
                    | refine W.leave rfl rfl rfl rfl ?_
                    | refine AOps.take rfl rfl (W.pure rfl rfl rfl ?_)
                    | refine AOps.take rfl rfl (W.cmpT rfl rfl rfl rfl (decide_eq_true (by omega)) ?_)
                    | refine AOps.take rfl rfl (W.cmpT rfl rfl rfl rfl (decide_eq_true hcp) ?_)
                    | refine AOps.take rfl rfl (W.indexAddr rfl rfl rfl rfl rfl rfl (by omega) (by omega) (rows_ne hlt) ?_)
                    | refine AOps.take rfl rfl (W.loadRow rfl rfl rfl rfl (ld_kid hlt) ?_)
                    | refine AOps.take rfl rfl (W.callV rfl rfl rfl rfl rfl (by rw [hwh]; exact hcall) (noLs_cv rfl) rfl rfl ?_)
                    | refine AOps.take rfl rfl (W.cmp rfl rfl rfl rfl (fun _ => ?_) (fun _ => ?_))
                    | refine AOps.plain rfl (W.boxI rfl rfl rfl rfl rfl rfl ?_)
                    | refine AOps.plain rfl (W.build rfl rfl rfl rfl rfl rfl rfl ?_)
                    | refine AOps.plain rfl (W.alloc rfl rfl rfl rfl rfl ?_)
                    | refine AOps.plain rfl (W.storeL rfl rfl rfl rfl rfl rfl rfl rfl rfl ?_)
                    | refine AOps.plain rfl (W.buildSlice rfl rfl rfl rfl rfl rfl rfl rfl rfl ?_))
                | (show AWp _ _ _ _ _; first
                    | refine AWp.seq ?_
                    | refine AWp.region ?_
                    | refine AWp.condT rfl ?_
                    | refine AWp.condF rfl ?_
                    | refine AWp.skip ?_
                    | refine AWp.block ?_
                    | refine AWp.exit ?_
                    | refine AWp.ret ?_
                    | refine AWp.draw0 (by kernel_rfl) ?_)
                | refine AThen.normal ?_
                | refine AThen.exit ?_
                | refine AThen.ret ?_
                | refine AThen.pan ?_
                | refine AInBlock.pan ?_
                | refine AInBlock.normal ?_
                | refine AInBlock.ret ?_
                | refine AInBlock.same ?_
                | refine AInBlock.other rfl ?_)
            refine hnext.out _ hlt ⟨leftT ks[j] c (h - 1), by omega, by omega, ?_, _, rfl, rfl, rfl, rfl, subInt (wrapAdd (by omega) (by omega)), trivial⟩
            rw [hpre, hst]
          · repeat' (first
              | (show DOps _ _ _ _ _ _ _ _ _ _ _; first
                  | refine D.end ?_
                  | refine D.val (.inl rfl) rfl rfl rfl ?_
                  | refine D.leave rfl rfl rfl rfl ?_
                  | refine D.val (Wants.take rfl rfl) rfl rfl rfl ?_
                  | refine (D.cmpT rfl (.inl rfl) rfl rfl rfl (decide_eq_true (by omega)) ?_)
                  | refine (D.cmpF rfl (.inl rfl) rfl rfl rfl (decide_eq_false hcp) ?_)
                  | refine D.cmp rfl (.inl rfl) rfl rfl rfl (fun _ => ?_) (fun _ => ?_)
                  | refine D.valO (.inl rfl) rfl rfl rfl rfl ?_
                  | refine D.build (.inl rfl) rfl rfl rfl rfl rfl rfl rfl ?_
                  | refine D.buildSlice (.inl rfl) rfl rfl rfl rfl rfl rfl rfl rfl rfl ?_
                  | refine (D.cmpT rfl (Wants.take rfl rfl) rfl rfl rfl (decide_eq_true (by omega)) ?_)
                  | refine (D.cmpF rfl (Wants.take rfl rfl) rfl rfl rfl (decide_eq_false hcp) ?_)
                  | refine D.cmp rfl (Wants.take rfl rfl) rfl rfl rfl (fun _ => ?_) (fun _ => ?_)
                  | refine D.valO (Wants.take rfl rfl) rfl rfl rfl rfl ?_
                  | refine D.build (Wants.take rfl rfl) rfl rfl rfl rfl rfl rfl rfl ?_
                  | refine D.buildSlice (Wants.take rfl rfl) rfl rfl rfl rfl rfl rfl rfl rfl rfl ?_)
              | (show AOps _ _ _ _ _ _; first
                  | refine AOps.nil ?_
                  | refine AOps.plain rfl (W.pure rfl rfl rfl ?_)
                  | refine AOps.plain rfl (W.cmpT rfl rfl rfl rfl (decide_eq_true (by omega)) ?_)
                  | refine AOps.plain rfl (W.cmpF rfl rfl rfl rfl (decide_eq_false hcp) ?_)
                  | refine AOps.plain rfl (W.cmp rfl rfl rfl rfl (fun _ => ?_) (fun _ => ?_))
                  | refine W.leave rfl rfl rfl rfl ?_
                  | refine AOps.take rfl rfl (W.pure rfl rfl rfl ?_)
                  | refine AOps.take rfl rfl (W.cmpT rfl rfl rfl rfl (decide_eq_true (by omega)) ?_)
                  | refine AOps.take rfl rfl (W.cmpF rfl rfl rfl rfl (decide_eq_false hcp) ?_)
                  | refine AOps.take rfl rfl (W.cmp rfl rfl rfl rfl (fun _ => ?_) (fun _ => ?_))
                  | refine AOps.plain rfl (W.boxI rfl rfl rfl rfl rfl rfl ?_)
                  | refine AOps.plain rfl (W.build rfl rfl rfl rfl rfl rfl rfl ?_)
                  | refine AOps.plain rfl (W.alloc rfl rfl rfl rfl rfl ?_)
                  | refine AOps.plain rfl (W.storeL rfl rfl rfl rfl rfl rfl rfl rfl rfl ?_)
                  | refine AOps.plain rfl (W.buildSlice rfl rfl rfl rfl rfl rfl rfl rfl rfl ?_))
              | (show AWp _ _ _ _ _; first
                  | refine AWp.seq ?_
                  | refine AWp.region ?_
                  | refine AWp.condT rfl ?_
                  | refine AWp.condF rfl ?_
                  | refine AWp.skip ?_
                  | refine AWp.block ?_
                  | refine AWp.exit ?_
                  | refine AWp.ret ?_
                  | refine AWp.draw0 (by kernel_rfl) ?_)
              | refine AThen.normal ?_
              | refine AThen.exit ?_
              | refine AThen.ret ?_
              | refine AThen.pan ?_
              | refine AInBlock.pan ?_
              | refine AInBlock.normal ?_
              | refine AInBlock.ret ?_
              | refine AInBlock.same ?_
              | refine AInBlock.other rfl ?_)
            refine bodyQ.one rfl rfl rfl ⟨?_, rfl⟩
            rw [hres, hpre, leftsT_neg _ hcp]
        · repeat' (first
            | (show DOps _ _ _ _ _ _ _ _ _ _ _; first
                | refine D.end ?_
                | refine D.val (.inl rfl) rfl rfl rfl ?_
                | refine D.leave rfl rfl rfl rfl ?_
                | refine D.val (Wants.take rfl rfl) rfl rfl rfl ?_
                | refine (D.cmpF rfl (.inl rfl) rfl rfl rfl (decide_eq_false (by omega)) ?_)
                | refine D.cmp rfl (.inl rfl) rfl rfl rfl (fun _ => ?_) (fun _ => ?_)
                | refine D.valO (.inl rfl) rfl rfl rfl rfl ?_
                | refine D.build (.inl rfl) rfl rfl rfl rfl rfl rfl rfl ?_
                | refine D.buildSlice (.inl rfl) rfl rfl rfl rfl rfl rfl rfl rfl rfl ?_
                | refine (D.cmpF rfl (Wants.take rfl rfl) rfl rfl rfl (decide_eq_false (by omega)) ?_)
                | refine D.cmp rfl (Wants.take rfl rfl) rfl rfl rfl (fun _ => ?_) (fun _ => ?_)
                | refine D.valO (Wants.take rfl rfl) rfl rfl rfl rfl ?_
                | refine D.build (Wants.take rfl rfl) rfl rfl rfl rfl rfl rfl rfl ?_
                | refine D.buildSlice (Wants.take rfl rfl) rfl rfl rfl rfl rfl rfl rfl rfl rfl ?_)
            | (show AOps _ _ _ _ _ _; first
                | refine AOps.nil ?_
                | refine AOps.plain rfl (W.pure rfl rfl rfl ?_)
                | refine AOps.plain rfl (W.cmpF rfl rfl rfl rfl (decide_eq_false (by omega)) ?_)
                | refine AOps.plain rfl (W.cmp rfl rfl rfl rfl (fun _ => ?_) (fun _ => ?_))
                | refine W.leave rfl rfl rfl rfl ?_
                | refine AOps.take rfl rfl (W.pure rfl rfl rfl ?_)
                | refine AOps.take rfl rfl (W.cmpF rfl rfl rfl rfl (decide_eq_false (by omega)) ?_)
                | refine AOps.take rfl rfl (W.cmp rfl rfl rfl rfl (fun _ => ?_) (fun _ => ?_))
                | refine AOps.plain rfl (W.boxI rfl rfl rfl rfl rfl rfl ?_)
                | refine AOps.plain rfl (W.build rfl rfl rfl rfl rfl rfl rfl ?_)
                | refine AOps.plain rfl (W.alloc rfl rfl rfl rfl rfl ?_)
                | refine AOps.plain rfl (W.storeL rfl rfl rfl rfl rfl rfl rfl rfl rfl ?_)
                | refine AOps.plain rfl (W.buildSlice rfl rfl rfl rfl rfl rfl rfl rfl rfl ?_))
            | (show AWp _ _ _ _ _; first
                | refine AWp.seq ?_
                | refine AWp.region ?_
                | refine AWp.condT rfl ?_
                | refine AWp.condF rfl ?_
                | refine AWp.skip ?_
                | refine AWp.block ?_
                | refine AWp.exit ?_
                | refine AWp.ret ?_
                | refine AWp.draw0 (by kernel_rfl) ?_)
            | refine AThen.normal ?_
            | refine AThen.exit ?_
            | refine AThen.ret ?_
            | refine AThen.pan ?_
            | refine AInBlock.pan ?_
            | refine AInBlock.normal ?_
            | refine AInBlock.ret ?_
            | refine AInBlock.same ?_
            | refine AInBlock.other rfl ?_)
          refine bodyQ.one rfl rfl rfl ⟨?_, rfl⟩
          rw [hres, hpre, List.drop_eq_nil_of_le (by omega)]
          rfl

set_option maxHeartbeats 400000 in
theorem few_ok (t : Tree) (hsm : t.small) : Ans 5 [t.cv, .int .i64 300] (.bool (decide (leftT t 300 40 ≥ 0))) := by
  intro M
  have h := left_ok t hsm 300 40 (by decide) (by decide) (by decide) (by decide) M
  obtain ⟨k, o, n, s, ns, ks, p⟩ := t
  refine ACalls.of_body Try.func5 rfl rfl rfl ?_
  simp only [Try.ntmps5, frOf]
  repeat' (first
      | (show DOps _ _ _ _ _ _ _ _ _ _ _; first
          | refine D.end ?_
          | refine D.val (.inl rfl) rfl rfl rfl ?_
          | refine D.leave rfl rfl rfl rfl ?_
          | refine D.val (Wants.take rfl rfl) rfl rfl rfl ?_
          | refine D.cmp rfl (.inl rfl) rfl rfl rfl (fun _ => ?_) (fun _ => ?_)
          | refine D.valO (.inl rfl) rfl rfl rfl rfl ?_
          | refine D.build (.inl rfl) rfl rfl rfl rfl rfl rfl rfl ?_
          | refine D.buildSlice (.inl rfl) rfl rfl rfl rfl rfl rfl rfl rfl rfl ?_
          | refine D.cmp rfl (Wants.take rfl rfl) rfl rfl rfl (fun _ => ?_) (fun _ => ?_)
          | refine D.valO (Wants.take rfl rfl) rfl rfl rfl rfl ?_
          | refine D.build (Wants.take rfl rfl) rfl rfl rfl rfl rfl rfl rfl ?_
          | refine D.buildSlice (Wants.take rfl rfl) rfl rfl rfl rfl rfl rfl rfl rfl rfl ?_)
      | (show AOps _ _ _ _ _ _; first
          | refine AOps.nil ?_
          | refine AOps.plain rfl (W.pure rfl rfl rfl ?_)
          | refine AOps.plain rfl (W.callV rfl rfl rfl rfl rfl (h) rfl rfl rfl ?_)
          | refine AOps.plain rfl (W.cmp rfl rfl rfl rfl (fun _ => ?_) (fun _ => ?_))
          | refine W.leave rfl rfl rfl rfl ?_
          | refine AOps.take rfl rfl (W.pure rfl rfl rfl ?_)
          | refine AOps.take rfl rfl (W.callV rfl rfl rfl rfl rfl (h) rfl rfl rfl ?_)
          | refine AOps.take rfl rfl (W.cmp rfl rfl rfl rfl (fun _ => ?_) (fun _ => ?_))
          | refine AOps.plain rfl (W.boxI rfl rfl rfl rfl rfl rfl ?_)
          | refine AOps.plain rfl (W.build rfl rfl rfl rfl rfl rfl rfl ?_)
          | refine AOps.plain rfl (W.alloc rfl rfl rfl rfl rfl ?_)
          | refine AOps.plain rfl (W.storeL rfl rfl rfl rfl rfl rfl rfl rfl rfl ?_)
          | refine AOps.plain rfl (W.buildSlice rfl rfl rfl rfl rfl rfl rfl rfl rfl ?_))
      | (show AWp _ _ _ _ _; first
          | refine AWp.seq ?_
          | refine AWp.region ?_
          | refine AWp.condT rfl ?_
          | refine AWp.condF rfl ?_
          | refine AWp.skip ?_
          | refine AWp.block ?_
          | refine AWp.exit ?_
          | refine AWp.ret ?_
          | refine AWp.draw0 (by kernel_rfl) ?_)
      | refine AThen.normal ?_
      | refine AThen.exit ?_
      | refine AThen.ret ?_
      | refine AThen.pan ?_
      | refine AInBlock.pan ?_
      | refine AInBlock.normal ?_
      | refine AInBlock.ret ?_
      | refine AInBlock.same ?_
      | refine AInBlock.other rfl ?_)
  all_goals refine bodyQ.one rfl rfl rfl ⟨?_, rfl⟩
  all_goals simp [*]

/-! ### how high -/
mutual
def heightT : Tree → Int
  | .mk _ _ _ _ _ ks _ => heightsT ks + 1
def heightsT : List Tree → Int
  | [] => 0
  | t :: r => if heightT t > heightsT r then heightT t else heightsT r
end

theorem heightsT_append (a : List Tree) (t : Tree) : heightsT (a ++ [t]) = if heightT t > heightsT a then heightT t else heightsT a := by
  induction a with
  | nil => rfl
  | cons x r ih =>
    simp only [List.cons_append, heightsT, ih]
    repeat' split
    all_goals omega

mutual
theorem heightT_pos : ∀ t : Tree, 1 ≤ heightT t
  | .mk _ _ _ _ _ ks _ => by have := heightsT_pos ks; simp only [heightT]; omega
theorem heightsT_pos : ∀ l : List Tree, 0 ≤ heightsT l
  | [] => by simp [heightsT]
  | t :: r => by have := heightT_pos t; have := heightsT_pos r; simp only [heightsT]; split <;> omega
end

theorem heightsT_mem {l : List Tree} {t : Tree} (h : t ∈ l) : heightT t ≤ heightsT l := by
  induction l with
  | nil => cases h
  | cons x r ih =>
    simp only [heightsT]
    rcases List.mem_cons.1 h with rfl | h
    · split <;> omega
    · have := ih h
      split <;> omega

theorem heightsT_take (l : List Tree) {k : Nat} (h : k < l.length) : heightsT (l.take (k + 1)) = if heightT l[k] > heightsT (l.take k) then heightT l[k] else heightsT (l.take k) := by
  rw [← heightsT_append, List.take_append_getElem h]

theorem heightsT_take_le (l : List Tree) : ∀ k, k ≤ l.length → heightsT (l.take k) ≤ heightsT l := by
  intro k
  induction k with
  | zero => intro _; exact heightsT_pos l
  | succ k ih =>
    intro hk
    have h1 := ih (by omega)
    have h2 := heightsT_mem (List.getElem_mem (show k < l.length by omega))
    rw [heightsT_take l (by omega)]
    split <;> omega

set_option maxHeartbeats 4000000 in
theorem height_ok (t : Tree) : t.small → heightT t < 4611686018427387904 → Ans 14 [t.cv] (.int .i64 (heightT t)) := by
  induction t using Tree.ind with
  | h k o n s ns ks p ih =>
    intro hsm hhi M
    obtain ⟨hs1, hs2, hs3, hs4, hs5⟩ := hsm
    have hhi' : heightsT ks + 1 < 4611686018427387904 := hhi
    refine ACalls.of_body Try.func14 rfl rfl rfl ?_
    simp only [Try.ntmps14, frOf]
    repeat' (first
        | (show DOps _ _ _ _ _ _ _ _ _ _ _; first
            | refine D.end ?_
            | refine D.val (.inl rfl) rfl rfl rfl ?_
            | refine D.leave rfl rfl rfl rfl ?_
            | refine D.val (Wants.take rfl rfl) rfl rfl rfl ?_
            | refine D.cmp rfl (.inl rfl) rfl rfl rfl (fun _ => ?_) (fun _ => ?_)
            | refine D.valO (.inl rfl) rfl rfl rfl rfl ?_
            | refine D.build (.inl rfl) rfl rfl rfl rfl rfl rfl rfl ?_
            | refine D.buildSlice (.inl rfl) rfl rfl rfl rfl rfl rfl rfl rfl rfl ?_
            | refine D.cmp rfl (Wants.take rfl rfl) rfl rfl rfl (fun _ => ?_) (fun _ => ?_)
            | refine D.valO (Wants.take rfl rfl) rfl rfl rfl rfl ?_
            | refine D.build (Wants.take rfl rfl) rfl rfl rfl rfl rfl rfl rfl ?_
            | refine D.buildSlice (Wants.take rfl rfl) rfl rfl rfl rfl rfl rfl rfl rfl rfl ?_)
        | (show AOps _ _ _ _ _ _; first
            | refine AOps.nil ?_
            | refine AOps.plain rfl (W.pure rfl rfl rfl ?_)
            | refine AOps.plain rfl (W.cmp rfl rfl rfl rfl (fun _ => ?_) (fun _ => ?_))
            | refine W.leave rfl rfl rfl rfl ?_
            | refine AOps.take rfl rfl (W.pure rfl rfl rfl ?_)
            | refine AOps.take rfl rfl (W.cmp rfl rfl rfl rfl (fun _ => ?_) (fun _ => ?_))
            | refine AOps.plain rfl (W.boxI rfl rfl rfl rfl rfl rfl ?_)
            | refine AOps.plain rfl (W.build rfl rfl rfl rfl rfl rfl rfl ?_)
            | refine AOps.plain rfl (W.alloc rfl rfl rfl rfl rfl ?_)
            | refine AOps.plain rfl (W.storeL rfl rfl rfl rfl rfl rfl rfl rfl rfl ?_)
            | refine AOps.plain rfl (W.buildSlice rfl rfl rfl rfl rfl rfl rfl rfl rfl ?_))
        | (show AWp _ _ _ _ _; first
            | refine AWp.seq ?_
            | refine AWp.region ?_
            | refine AWp.condT rfl ?_
            | refine AWp.condF rfl ?_
            | refine AWp.skip ?_
            | refine AWp.block ?_
            | refine AWp.exit ?_
            | refine AWp.ret ?_
            | refine AWp.draw0 (by kernel_rfl) ?_)
        | refine AThen.normal ?_
        | refine AThen.exit ?_
        | refine AThen.ret ?_
        | refine AThen.pan ?_
        | refine AInBlock.pan ?_
        | refine AInBlock.normal ?_
        | refine AInBlock.ret ?_
        | refine AInBlock.same ?_
        | refine AInBlock.other rfl ?_)
    refine AWp.loop ?_
    refine AWpL.upto (fun j st => ∃ fr, st = { fr := fr, loc := [], M := M, ds := [] } ∧ Sub fr [(1, .iptr (Tree.mk k o n s ns ks p).cells 0), (3, .int .i64 (heightsT (ks.take j))), (4, .int .i64 (j : Int))]) ks.length ?_ 0 _ (Nat.zero_le _)
      ⟨_, rfl, rfl, rfl, rfl, trivial⟩
    rintro j st hj ⟨fr, rfl, hsub⟩ hnext
    refine AWp.mask hsub ?_
    clear hsub
    by_cases hlt : j < ks.length
    · have hst := heightsT_take ks hlt
      have hle := heightsT_mem (List.getElem_mem hlt)
      have hcall := ih ks[j] (List.getElem_mem _) (smalls_mem hs5 (List.getElem_mem _)) (by omega) M
      by_cases hgt : heightT ks[j] > heightsT (ks.take j)
      · repeat' (first
          | (show DOps _ _ _ _ _ _ _ _ _ _ _; first
              | refine D.end ?_
              | refine D.val (.inl rfl) rfl rfl rfl ?_
              | refine D.leave rfl rfl rfl rfl ?_
              | refine D.val (Wants.take rfl rfl) rfl rfl rfl ?_
              | refine (D.cmpT rfl (.inl rfl) rfl rfl rfl (decide_eq_true (by omega)) ?_)
              | refine (D.cmpT rfl (.inl rfl) rfl rfl rfl (decide_eq_true hgt) ?_)
              | refine D.cmp rfl (.inl rfl) rfl rfl rfl (fun _ => ?_) (fun _ => ?_)
              | refine D.valO (.inl rfl) rfl rfl rfl rfl ?_
              | refine D.build (.inl rfl) rfl rfl rfl rfl rfl rfl rfl ?_
              | refine D.buildSlice (.inl rfl) rfl rfl rfl rfl rfl rfl rfl rfl rfl ?_
              | refine (D.cmpT rfl (Wants.take rfl rfl) rfl rfl rfl (decide_eq_true (by omega)) ?_)
              | refine (D.cmpT rfl (Wants.take rfl rfl) rfl rfl rfl (decide_eq_true hgt) ?_)
              | refine D.cmp rfl (Wants.take rfl rfl) rfl rfl rfl (fun _ => ?_) (fun _ => ?_)
              | refine D.valO (Wants.take rfl rfl) rfl rfl rfl rfl ?_
              | refine D.build (Wants.take rfl rfl) rfl rfl rfl rfl rfl rfl rfl ?_
              | refine D.buildSlice (Wants.take rfl rfl) rfl rfl rfl rfl rfl rfl rfl rfl rfl ?_)
          | (show AOps _ _ _ _ _ _; first
              | refine AOps.nil ?_
              | refine AOps.plain rfl (W.pure rfl rfl rfl ?_)
              | refine AOps.plain rfl (W.cmpT rfl rfl rfl rfl (decide_eq_true (by omega)) ?_)
              | refine AOps.plain rfl (W.cmpT rfl rfl rfl rfl (decide_eq_true hgt) ?_)
              | refine AOps.plain rfl (W.indexAddr rfl rfl rfl rfl rfl rfl (by omega) (by omega) (rows_ne hlt) ?_)
              | refine AOps.plain rfl (W.loadRow rfl rfl rfl rfl (ld_kid hlt) ?_)
              | refine AOps.plain rfl (W.callV rfl rfl rfl rfl rfl hcall (noLs_cv rfl) rfl rfl ?_)
              | refine AOps.plain rfl (W.cmp rfl rfl rfl rfl (fun _ => ?_) (fun _ => ?_))
              | refine W.leave rfl rfl rfl rfl ?_
              | refine AOps.take rfl rfl (W.pure rfl rfl rfl ?_)
              | refine AOps.take rfl rfl (W.cmpT rfl rfl rfl rfl (decide_eq_true (by omega)) ?_)
              | refine AOps.take rfl rfl (W.cmpT rfl rfl rfl rfl (decide_eq_true hgt) ?_)
              | refine AOps.take rfl rfl (W.indexAddr rfl rfl rfl rfl rfl rfl (by omega) (by omega) (rows_ne hlt) ?_)
              | refine AOps.take rfl rfl (W.loadRow rfl rfl rfl rfl (ld_kid hlt) ?_)
              | refine AOps.take rfl rfl (W.callV rfl rfl rfl rfl rfl hcall (noLs_cv rfl) rfl rfl ?_)
              | refine AOps.take rfl rfl (W.cmp rfl rfl rfl rfl (fun _ => ?_) (fun _ => ?_))
              | refine AOps.plain rfl (W.boxI rfl rfl rfl rfl rfl rfl ?_)
              | refine AOps.plain rfl (W.build rfl rfl rfl rfl rfl rfl rfl ?_)
              | refine AOps.plain rfl (W.alloc rfl rfl rfl rfl rfl ?_)
              | refine AOps.plain rfl (W.storeL rfl rfl rfl rfl rfl rfl rfl rfl rfl ?_)
              | refine AOps.plain rfl (W.buildSlice rfl rfl rfl rfl rfl rfl rfl rfl rfl ?_))
          | (show AWp _ _ _ _ _; first
              | refine AWp.seq ?_
              | refine AWp.region ?_
              | refine AWp.condT rfl ?_
              | refine AWp.condF rfl ?_
              | refine AWp.skip ?_
              | refine AWp.block ?_
              | refine AWp.exit ?_
              | refine AWp.ret ?_
              | refine AWp.draw0 (by kernel_rfl) ?_)
          | refine AThen.normal ?_
          | refine AThen.exit ?_
          | refine AThen.ret ?_
          | refine AThen.pan ?_
          | refine AInBlock.pan ?_
          | refine AInBlock.normal ?_
          | refine AInBlock.ret ?_
          | refine AInBlock.same ?_
          | refine AInBlock.other rfl ?_)
        refine hnext.out _ hlt ⟨_, rfl, rfl, subInt (by rw [hst, if_pos hgt]), subInt (wrapAdd (by omega) (by omega)), trivial⟩
      · repeat' (first
          | (show DOps _ _ _ _ _ _ _ _ _ _ _; first
              | refine D.end ?_
              | refine D.val (.inl rfl) rfl rfl rfl ?_
              | refine D.leave rfl rfl rfl rfl ?_
              | refine D.val (Wants.take rfl rfl) rfl rfl rfl ?_
              | refine (D.cmpT rfl (.inl rfl) rfl rfl rfl (decide_eq_true (by omega)) ?_)
              | refine (D.cmpF rfl (.inl rfl) rfl rfl rfl (decide_eq_false hgt) ?_)
              | refine D.cmp rfl (.inl rfl) rfl rfl rfl (fun _ => ?_) (fun _ => ?_)
              | refine D.valO (.inl rfl) rfl rfl rfl rfl ?_
              | refine D.build (.inl rfl) rfl rfl rfl rfl rfl rfl rfl ?_
              | refine D.buildSlice (.inl rfl) rfl rfl rfl rfl rfl rfl rfl rfl rfl ?_
              | refine (D.cmpT rfl (Wants.take rfl rfl) rfl rfl rfl (decide_eq_true (by omega)) ?_)
              | refine (D.cmpF rfl (Wants.take rfl rfl) rfl rfl rfl (decide_eq_false hgt) ?_)
              | refine D.cmp rfl (Wants.take rfl rfl) rfl rfl rfl (fun _ => ?_) (fun _ => ?_)
              | refine D.valO (Wants.take rfl rfl) rfl rfl rfl rfl ?_
              | refine D.build (Wants.take rfl rfl) rfl rfl rfl rfl rfl rfl rfl ?_
              | refine D.buildSlice (Wants.take rfl rfl) rfl rfl rfl rfl rfl rfl rfl rfl rfl ?_)
          | (show AOps _ _ _ _ _ _; first
              | refine AOps.nil ?_
              | refine AOps.plain rfl (W.pure rfl rfl rfl ?_)
              | refine AOps.plain rfl (W.cmpT rfl rfl rfl rfl (decide_eq_true (by omega)) ?_)
              | refine AOps.plain rfl (W.cmpF rfl rfl rfl rfl (decide_eq_false hgt) ?_)
              | refine AOps.plain rfl (W.indexAddr rfl rfl rfl rfl rfl rfl (by omega) (by omega) (rows_ne hlt) ?_)
              | refine AOps.plain rfl (W.loadRow rfl rfl rfl rfl (ld_kid hlt) ?_)
              | refine AOps.plain rfl (W.callV rfl rfl rfl rfl rfl hcall (noLs_cv rfl) rfl rfl ?_)
              | refine AOps.plain rfl (W.cmp rfl rfl rfl rfl (fun _ => ?_) (fun _ => ?_))
              | refine W.leave rfl rfl rfl rfl ?_
              | refine AOps.take rfl rfl (W.pure rfl rfl rfl ?_)
              | refine AOps.take rfl rfl (W.cmpT rfl rfl rfl rfl (decide_eq_true (by omega)) ?_)
              | refine AOps.take rfl rfl (W.cmpF rfl rfl rfl rfl (decide_eq_false hgt) ?_)
              | refine AOps.take rfl rfl (W.indexAddr rfl rfl rfl rfl rfl rfl (by omega) (by omega) (rows_ne hlt) ?_)
              | refine AOps.take rfl rfl (W.loadRow rfl rfl rfl rfl (ld_kid hlt) ?_)
              | refine AOps.take rfl rfl (W.callV rfl rfl rfl rfl rfl hcall (noLs_cv rfl) rfl rfl ?_)
              | refine AOps.take rfl rfl (W.cmp rfl rfl rfl rfl (fun _ => ?_) (fun _ => ?_))
              | refine AOps.plain rfl (W.boxI rfl rfl rfl rfl rfl rfl ?_)
              | refine AOps.plain rfl (W.build rfl rfl rfl rfl rfl rfl rfl ?_)
              | refine AOps.plain rfl (W.alloc rfl rfl rfl rfl rfl ?_)
              | refine AOps.plain rfl (W.storeL rfl rfl rfl rfl rfl rfl rfl rfl rfl ?_)
              | refine AOps.plain rfl (W.buildSlice rfl rfl rfl rfl rfl rfl rfl rfl rfl ?_))
          | (show AWp _ _ _ _ _; first
              | refine AWp.seq ?_
              | refine AWp.region ?_
              | refine AWp.condT rfl ?_
              | refine AWp.condF rfl ?_
              | refine AWp.skip ?_
              | refine AWp.block ?_
              | refine AWp.exit ?_
              | refine AWp.ret ?_
              | refine AWp.draw0 (by kernel_rfl) ?_)
          | refine AThen.normal ?_
          | refine AThen.exit ?_
          | refine AThen.ret ?_
          | refine AThen.pan ?_
          | refine AInBlock.pan ?_
          | refine AInBlock.normal ?_
          | refine AInBlock.ret ?_
          | refine AInBlock.same ?_
          | refine AInBlock.other rfl ?_)
        refine hnext.out _ hlt ⟨_, rfl, rfl, subInt (by rw [hst, if_neg hgt]), subInt (wrapAdd (by omega) (by omega)), trivial⟩
    · repeat' (first
        | (show DOps _ _ _ _ _ _ _ _ _ _ _; first
            | refine D.end ?_
            | refine D.val (.inl rfl) rfl rfl rfl ?_
            | refine D.leave rfl rfl rfl rfl ?_
            | refine D.val (Wants.take rfl rfl) rfl rfl rfl ?_
            | refine (D.cmpF rfl (.inl rfl) rfl rfl rfl (decide_eq_false (by omega)) ?_)
            | refine D.cmp rfl (.inl rfl) rfl rfl rfl (fun _ => ?_) (fun _ => ?_)
            | refine D.valO (.inl rfl) rfl rfl rfl rfl ?_
            | refine D.build (.inl rfl) rfl rfl rfl rfl rfl rfl rfl ?_
            | refine D.buildSlice (.inl rfl) rfl rfl rfl rfl rfl rfl rfl rfl rfl ?_
            | refine (D.cmpF rfl (Wants.take rfl rfl) rfl rfl rfl (decide_eq_false (by omega)) ?_)
            | refine D.cmp rfl (Wants.take rfl rfl) rfl rfl rfl (fun _ => ?_) (fun _ => ?_)
            | refine D.valO (Wants.take rfl rfl) rfl rfl rfl rfl ?_
            | refine D.build (Wants.take rfl rfl) rfl rfl rfl rfl rfl rfl rfl ?_
            | refine D.buildSlice (Wants.take rfl rfl) rfl rfl rfl rfl rfl rfl rfl rfl rfl ?_)
        | (show AOps _ _ _ _ _ _; first
            | refine AOps.nil ?_
            | refine AOps.plain rfl (W.pure rfl rfl rfl ?_)
            | refine AOps.plain rfl (W.cmpF rfl rfl rfl rfl (decide_eq_false (by omega)) ?_)
            | refine AOps.plain rfl (W.cmp rfl rfl rfl rfl (fun _ => ?_) (fun _ => ?_))
            | refine W.leave rfl rfl rfl rfl ?_
            | refine AOps.take rfl rfl (W.pure rfl rfl rfl ?_)
            | refine AOps.take rfl rfl (W.cmpF rfl rfl rfl rfl (decide_eq_false (by omega)) ?_)
            | refine AOps.take rfl rfl (W.cmp rfl rfl rfl rfl (fun _ => ?_) (fun _ => ?_))
            | refine AOps.plain rfl (W.boxI rfl rfl rfl rfl rfl rfl ?_)
            | refine AOps.plain rfl (W.build rfl rfl rfl rfl rfl rfl rfl ?_)
            | refine AOps.plain rfl (W.alloc rfl rfl rfl rfl rfl ?_)
            | refine AOps.plain rfl (W.storeL rfl rfl rfl rfl rfl rfl rfl rfl rfl ?_)
            | refine AOps.plain rfl (W.buildSlice rfl rfl rfl rfl rfl rfl rfl rfl rfl ?_))
        | (show AWp _ _ _ _ _; first
            | refine AWp.seq ?_
            | refine AWp.region ?_
            | refine AWp.condT rfl ?_
            | refine AWp.condF rfl ?_
            | refine AWp.skip ?_
            | refine AWp.block ?_
            | refine AWp.exit ?_
            | refine AWp.ret ?_
            | refine AWp.draw0 (by kernel_rfl) ?_)
        | refine AThen.normal ?_
        | refine AThen.exit ?_
        | refine AThen.ret ?_
        | refine AThen.pan ?_
        | refine AInBlock.pan ?_
        | refine AInBlock.normal ?_
        | refine AInBlock.ret ?_
        | refine AInBlock.same ?_
        | refine AInBlock.other rfl ?_)
      refine bodyQ.one rfl rfl rfl ⟨?_, rfl⟩
      have hj' : j = ks.length := by omega
      subst hj'
      have hp := heightsT_pos ks
      simp only [heightT, List.take_length]
      rw [wrapAdd hp (by omega)]

end Go.Proofs.Ytceocfancfjdjaa
