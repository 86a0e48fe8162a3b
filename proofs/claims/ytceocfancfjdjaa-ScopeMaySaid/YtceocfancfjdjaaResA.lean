/- (D) The call that Resolve defers: it turns a resolver's panic into an error and its place. No condition. -/
import Derived.Test.YtceocfancfjdjaaDef3
namespace Go.Proofs.Ytceocfancfjdjaa
open Go Go.RowKit
attribute [local irreducible] ACalls AOps AOp AWp AWpL AThen AInBlock bodyQ seq DOps

set_option maxHeartbeats 1000000 in
theorem recovNo_ok (M : List AObj) : DCalls 17 [.ptr (.g 0) 0 0, .ptr (.g 1) 0 0, .ptr (.g 2) 0 0] M none (fun M' => M' = M) := by
  refine DCalls.of_body Try.func17 rfl rfl rfl rfl rfl rfl rfl ?_
  simp only [Try.ntmps17, frOf, Option.getD_none]
  repeat' (first
      | (show DOps _ _ _ _ _ _ _ _ _ _ _; first
          | refine D.end ?_
          | refine D.val (.inl rfl) rfl rfl rfl ?_
          | refine D.leave rfl rfl rfl rfl ?_
          | refine D.val (Wants.take rfl rfl) rfl rfl rfl ?_
          | refine D.cmp rfl (.inl rfl) rfl rfl rfl (fun _ => ?_) (fun _ => ?_)
          | refine D.valO (.inl rfl) rfl rfl rfl rfl ?_
          | refine D.build (.inl rfl) rfl rfl rfl rfl rfl rfl rfl ?_
          | refine D.buildSlice (.inl rfl) rfl rfl rfl rfl rfl rfl rfl rfl rfl ?_
          | refine D.cmp rfl (Wants.take rfl rfl) rfl rfl rfl (fun _ => ?_) (fun _ => ?_)
          | refine D.valO (Wants.take rfl rfl) rfl rfl rfl rfl ?_
          | refine D.build (Wants.take rfl rfl) rfl rfl rfl rfl rfl rfl rfl ?_
          | refine D.buildSlice (Wants.take rfl rfl) rfl rfl rfl rfl rfl rfl rfl rfl rfl ?_)
      | (show AOps _ _ _ _ _ _; first
          | refine AOps.nil ?_
          | refine AOps.plain rfl (W.pure rfl rfl rfl ?_)
          | refine AOps.plain rfl (W.assertNo rfl rfl rfl rfl ?_)
          | refine AOps.plain rfl (W.cmp rfl rfl rfl rfl (fun _ => ?_) (fun _ => ?_))
          | refine W.leave rfl rfl rfl rfl ?_
          | refine AOps.take rfl rfl (W.pure rfl rfl rfl ?_)
          | refine AOps.take rfl rfl (W.assertNo rfl rfl rfl rfl ?_)
          | refine AOps.take rfl rfl (W.cmp rfl rfl rfl rfl (fun _ => ?_) (fun _ => ?_))
          | refine AOps.plain rfl (W.boxI rfl rfl rfl rfl rfl rfl ?_)
          | refine AOps.plain rfl (W.build rfl rfl rfl rfl rfl rfl rfl ?_)
          | refine AOps.plain rfl (W.alloc rfl rfl rfl rfl rfl ?_)
          | refine AOps.plain rfl (W.storeL rfl rfl rfl rfl rfl rfl rfl rfl rfl ?_)
          | refine AOps.plain rfl (W.buildSlice rfl rfl rfl rfl rfl rfl rfl rfl rfl ?_))
      | (show AWp _ _ _ _ _; first
          | refine AWp.seq ?_
          | refine AWp.region ?_
          | refine AWp.condT rfl ?_
          | refine AWp.condF rfl ?_
          | refine AWp.skip ?_
          | refine AWp.block ?_
          | refine AWp.exit ?_
          | refine AWp.ret ?_
          | refine AWp.draw0 (by kernel_rfl) ?_)
      | refine AThen.normal ?_
      | refine AThen.exit ?_
      | refine AThen.ret ?_
      | refine AThen.pan ?_
      | refine AInBlock.pan ?_
      | refine AInBlock.normal ?_
      | refine AInBlock.ret ?_
      | refine AInBlock.same ?_
      | refine AInBlock.other rfl ?_)
  exact ⟨rfl, rfl⟩

set_option maxHeartbeats 1000000 in
theorem recovYes_ok (M : List AObj) (f : Int × Int) (g0 g1 g2 : CV) (a0 : CV) (h0 : M[0]? = some (.box [a0, g0])) (h1 : M[1]? = some (.box [g1])) (h2 : M[2]? = some (.box [g2])) :
    DCalls 17 [.ptr (.g 0) 0 0, .ptr (.g 1) 0 0, .ptr (.g 2) 0 0] M (some (faultV f))
      (fun M' => M'[0]? = some (.box [.int .i64 0, .nilslice]) ∧ M'[1]? = some (.box [.int .i64 f.1]) ∧ M'[2]? = some (.box [.int .i64 f.2])) := by
  refine DCalls.of_body Try.func17 rfl rfl rfl rfl rfl rfl rfl ?_
  simp only [Try.ntmps17, frOf, Option.getD_some]
  refine AOps.plain rfl (W.assertYes rfl rfl rfl rfl ?_)
  refine AOps.plain rfl (W.pure rfl rfl rfl ?_)
  refine AOps.plain rfl (W.pure rfl rfl rfl ?_)
  refine AOps.plain rfl (W.pure rfl rfl rfl ?_)
  refine AOps.plain rfl (W.alloc rfl rfl rfl rfl rfl ?_)
  refine AOps.plain rfl (W.storeL rfl rfl rfl rfl rfl rfl rfl rfl rfl ?_)
  refine AOps.plain rfl (W.pure rfl rfl rfl ?_)
  refine AOps.nil (AThen.normal ?_)
  refine AWp.freezeBox (d := 3) (fr' := [(0, .ptr (.g 0) 0 0), (1, .ptr (.g 1) 0 0), (2, .ptr (.g 2) 0 0), (4, .bool true)]) ⟨rfl, rfl, rfl, rfl, rfl, trivial⟩ rfl rfl rfl ?_
  have k1 : (M.set 0 (.box [.int .i64 0, .nilslice]))[1]? = some (.box [g1]) := by rw [List.getElem?_set_ne (by decide)]; exact h1
  have k2 : ((M.set 0 (.box [.int .i64 0, .nilslice])).set 1 (.box [.int .i64 f.1]))[2]? = some (.box [g2]) := by rw [List.getElem?_set_ne (by decide), List.getElem?_set_ne (by decide)]; exact h2
  repeat' (first
      | (show DOps _ _ _ _ _ _ _ _ _ _ _; first
          | refine D.end ?_
          | refine D.val (.inl rfl) rfl rfl rfl ?_
          | refine D.leave rfl rfl rfl rfl ?_
          | refine D.val (Wants.take rfl rfl) rfl rfl rfl ?_
          | refine (D.storeG (.inl rfl) (by kernel_rfl) rfl rfl rfl rfl h0 rfl rfl rfl rfl rfl rfl ?_)
          | refine (D.storeG (.inl rfl) (by kernel_rfl) rfl rfl rfl rfl k1 rfl rfl rfl rfl rfl rfl ?_)
          | refine (D.storeG (.inl rfl) (by kernel_rfl) rfl rfl rfl rfl k2 rfl rfl rfl rfl rfl rfl ?_)
          | refine D.cmp rfl (.inl rfl) rfl rfl rfl (fun _ => ?_) (fun _ => ?_)
          | refine D.valO (.inl rfl) rfl rfl rfl rfl ?_
          | refine D.build (.inl rfl) rfl rfl rfl rfl rfl rfl rfl ?_
          | refine D.buildSlice (.inl rfl) rfl rfl rfl rfl rfl rfl rfl rfl rfl ?_
          | refine (D.storeG (Wants.take rfl rfl) (by kernel_rfl) rfl rfl rfl rfl h0 rfl rfl rfl rfl rfl rfl ?_)
          | refine (D.storeG (Wants.take rfl rfl) (by kernel_rfl) rfl rfl rfl rfl k1 rfl rfl rfl rfl rfl rfl ?_)
          | refine (D.storeG (Wants.take rfl rfl) (by kernel_rfl) rfl rfl rfl rfl k2 rfl rfl rfl rfl rfl rfl ?_)
          | refine D.cmp rfl (Wants.take rfl rfl) rfl rfl rfl (fun _ => ?_) (fun _ => ?_)
          | refine D.valO (Wants.take rfl rfl) rfl rfl rfl rfl ?_
          | refine D.build (Wants.take rfl rfl) rfl rfl rfl rfl rfl rfl rfl ?_
          | refine D.buildSlice (Wants.take rfl rfl) rfl rfl rfl rfl rfl rfl rfl rfl rfl ?_)
      | (show AOps _ _ _ _ _ _; first
          | refine AOps.nil ?_
          | refine AOps.plain rfl (W.pure rfl rfl rfl ?_)
          | refine AOps.plain rfl (W.cmp rfl rfl rfl rfl (fun _ => ?_) (fun _ => ?_))
          | refine W.leave rfl rfl rfl rfl ?_
          | refine AOps.take rfl rfl (W.pure rfl rfl rfl ?_)
          | refine AOps.take rfl rfl (W.cmp rfl rfl rfl rfl (fun _ => ?_) (fun _ => ?_))
          | refine AOps.plain rfl (W.boxI rfl rfl rfl rfl rfl rfl ?_)
          | refine AOps.plain rfl (W.build rfl rfl rfl rfl rfl rfl rfl ?_)
          | refine AOps.plain rfl (W.alloc rfl rfl rfl rfl rfl ?_)
          | refine AOps.plain rfl (W.storeL rfl rfl rfl rfl rfl rfl rfl rfl rfl ?_)
          | refine AOps.plain rfl (W.buildSlice rfl rfl rfl rfl rfl rfl rfl rfl rfl ?_))
      | (show AWp _ _ _ _ _; first
          | refine AWp.drawE [5, 6, 7] (by kernel_rfl) (by kernel_rfl) ?_
          | refine AWp.seq ?_
          | refine AWp.region ?_
          | refine AWp.condT rfl ?_
          | refine AWp.condF rfl ?_
          | refine AWp.skip ?_
          | refine AWp.block ?_
          | refine AWp.exit ?_
          | refine AWp.ret ?_
          | refine AWp.draw0 (by kernel_rfl) ?_)
      | refine AThen.normal ?_
      | refine AThen.exit ?_
      | refine AThen.ret ?_
      | refine AThen.pan ?_
      | refine AInBlock.pan ?_
      | refine AInBlock.normal ?_
      | refine AInBlock.ret ?_
      | refine AInBlock.same ?_
      | refine AInBlock.other rfl ?_)
  refine ⟨rfl, ?_, ?_, ?_⟩
  · rw [List.getElem?_set_ne (by decide), List.getElem?_set_ne (by decide)]; exact set_at h0
  · rw [List.getElem?_set_ne (by decide)]; exact set_at k1
  · exact set_at k2

end Go.Proofs.Ytceocfancfjdjaa
