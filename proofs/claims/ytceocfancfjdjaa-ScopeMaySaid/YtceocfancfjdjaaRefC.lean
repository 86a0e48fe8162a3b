/- (D) The given reference: how many parts a node has, and what stands in its fields. No condition. -/
import Derived.Test.YtceocfancfjdjaaRefB
namespace Go.Proofs.Ytceocfancfjdjaa
open Go Go.RowKit
attribute [local irreducible] ACalls AOps AOp AWp AWpL AThen AInBlock bodyQ seq DOps

def manyT (k o : Int) (ns : List ByteArray) : Int × Int :=
  if k == 1 || k == 2 || k == 3 || k == 4 || k == 5 || k == 6 then (0, 0)
  else if k == 7 then (ns.length, ns.length)
  else if k == 8 || k == 29 then (0, 40)
  else if k == 9 || k == 13 || k == 21 || k == 22 || k == 25 || k == 27 || k == 31 || k == 32 then (1, 1)
  else if k == 10 || k == 11 || k == 12 || k == 14 || k == 23 || k == 26 || k == 30 then (2, 2)
  else if k == 15 || k == 16 then (1, 7)
  else if k == 17 then (builtN o, builtN o)
  else if k == 24 || k == 28 then (3, 3)
  else (-1, -1)

set_option maxHeartbeats 4000000 in
theorem refMany_ok (k o n : Int) (s : ByteArray) (ns : List ByteArray) (ks : List Tree) (p : Int) : Ans 25 [(Tree.mk k o n s ns ks p).cv] (.tuple [.int .i64 (manyT k o ns).1, .int .i64 (manyT k o ns).2]) := by
  intro M
  have hb := refBuilt_ok o M
  refine ACalls.of_body Try.func25 rfl rfl rfl ?_
  simp only [Try.ntmps25, frOf]
  repeat' (first
      | (show DOps _ _ _ _ _ _ _ _ _ _ _; first
          | refine D.end ?_
          | refine D.val (.inl rfl) rfl rfl rfl ?_
          | refine D.leave rfl rfl rfl rfl ?_
          | refine D.val (Wants.take rfl rfl) rfl rfl rfl ?_
          | refine D.cmp rfl (.inl rfl) rfl rfl rfl (fun _ => ?_) (fun _ => ?_)
          | refine D.valO (.inl rfl) rfl rfl rfl rfl ?_
          | refine D.build (.inl rfl) rfl rfl rfl rfl rfl rfl rfl ?_
          | refine D.buildSlice (.inl rfl) rfl rfl rfl rfl rfl rfl rfl rfl rfl ?_
          | refine D.cmp rfl (Wants.take rfl rfl) rfl rfl rfl (fun _ => ?_) (fun _ => ?_)
          | refine D.valO (Wants.take rfl rfl) rfl rfl rfl rfl ?_
          | refine D.build (Wants.take rfl rfl) rfl rfl rfl rfl rfl rfl rfl ?_
          | refine D.buildSlice (Wants.take rfl rfl) rfl rfl rfl rfl rfl rfl rfl rfl rfl ?_)
      | (show AOps _ _ _ _ _ _; first
          | refine AOps.nil ?_
          | refine AOps.plain rfl (W.pure rfl rfl rfl ?_)
          | refine AOps.plain rfl (W.callV rfl rfl rfl rfl rfl (hb) rfl rfl rfl ?_)
          | refine AOps.plain rfl (W.cmp rfl rfl rfl rfl (fun _ => ?_) (fun _ => ?_))
          | refine W.leave rfl rfl rfl rfl ?_
          | refine AOps.take rfl rfl (W.pure rfl rfl rfl ?_)
          | refine AOps.take rfl rfl (W.callV rfl rfl rfl rfl rfl (hb) rfl rfl rfl ?_)
          | refine AOps.take rfl rfl (W.cmp rfl rfl rfl rfl (fun _ => ?_) (fun _ => ?_))
          | refine AOps.plain rfl (W.boxI rfl rfl rfl rfl rfl rfl ?_)
          | refine AOps.plain rfl (W.build rfl rfl rfl rfl rfl rfl rfl ?_)
          | refine AOps.plain rfl (W.alloc rfl rfl rfl rfl rfl ?_)
          | refine AOps.plain rfl (W.storeL rfl rfl rfl rfl rfl rfl rfl rfl rfl ?_)
          | refine AOps.plain rfl (W.buildSlice rfl rfl rfl rfl rfl rfl rfl rfl rfl ?_))
      | (show AWp _ _ _ _ _; first
          | refine AWp.seq ?_
          | refine AWp.region ?_
          | refine AWp.condT rfl ?_
          | refine AWp.condF rfl ?_
          | refine AWp.skip ?_
          | refine AWp.block ?_
          | refine AWp.exit ?_
          | refine AWp.ret ?_
          | refine AWp.draw0 (by kernel_rfl) ?_)
      | refine AThen.normal ?_
      | refine AThen.exit ?_
      | refine AThen.ret ?_
      | refine AThen.pan ?_
      | refine AInBlock.pan ?_
      | refine AInBlock.normal ?_
      | refine AInBlock.ret ?_
      | refine AInBlock.same ?_
      | refine AInBlock.other rfl ?_)
  all_goals clear hb
  all_goals refine bodyQ.two rfl rfl rfl rfl rfl ⟨?_, rfl⟩
  all_goals simp [manyT, *]

end Go.Proofs.Ytceocfancfjdjaa
