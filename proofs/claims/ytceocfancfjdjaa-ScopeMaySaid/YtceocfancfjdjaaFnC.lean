/- Keys, names, signs, built-in calls, bare nodes: what each test answers. No condition. -/
import Derived.Test.YtceocfancfjdjaaFnB
namespace Go.Proofs.Ytceocfancfjdjaa
open Go Go.RowKit
attribute [local irreducible] ACalls AOps AOp AWp AWpL AThen AInBlock bodyQ seq

def keyList : List ByteArray := [⟨#[99, 111, 117, 110, 116]⟩, ⟨#[100, 101, 108, 101, 116, 101]⟩, ⟨#[101, 108, 115, 101]⟩, ⟨#[102, 97, 108, 115, 101]⟩, ⟨#[102, 110]⟩, ⟨#[104, 97, 115]⟩, ⟨#[105, 102]⟩,
  ⟨#[107, 101, 121]⟩, ⟨#[108, 101, 110]⟩, ⟨#[108, 101, 116]⟩, ⟨#[110, 117, 108, 108]⟩, ⟨#[112, 114, 105, 110, 116]⟩, ⟨#[112, 114, 111, 116, 111]⟩, ⟨#[114, 101, 116, 117, 114, 110]⟩,
  ⟨#[115, 101, 116, 112, 114, 111, 116, 111]⟩, ⟨#[115, 116, 114]⟩, ⟨#[116, 104, 105, 115]⟩, ⟨#[116, 114, 117, 101]⟩, ⟨#[119, 104, 105, 108, 101]⟩]

def isKeyB (b : ByteArray) : Bool := keyList.any fun k => seq b k

set_option maxHeartbeats 2000000 in
theorem isKey_ok (b : ByteArray) : Ans 67 [.str b] (.bool (isKeyB b)) := by
  intro M
  refine ACalls.of_body Try.func67 rfl rfl rfl ?_
  simp only [Try.ntmps67, frOf]
  repeat' (first
      | (show AOps _ _ _ _ _ _; first
          | refine AOps.nil ?_
          | refine AOps.plain rfl (W.pure rfl rfl rfl ?_)
          | refine AOps.plain rfl (W.cmp rfl rfl rfl rfl (fun _ => ?_) (fun _ => ?_))
          | refine W.leave rfl rfl rfl rfl ?_
          | refine AOps.take rfl rfl (W.pure rfl rfl rfl ?_)
          | refine AOps.take rfl rfl (W.cmp rfl rfl rfl rfl (fun _ => ?_) (fun _ => ?_))
          | refine AOps.plain rfl (W.boxI rfl rfl rfl rfl rfl rfl ?_)
          | refine AOps.plain rfl (W.build rfl rfl rfl rfl rfl rfl rfl ?_)
          | refine AOps.plain rfl (W.alloc rfl rfl rfl rfl rfl ?_)
          | refine AOps.plain rfl (W.storeL rfl rfl rfl rfl rfl rfl rfl rfl rfl ?_)
          | refine AOps.plain rfl (W.buildSlice rfl rfl rfl rfl rfl rfl rfl rfl rfl ?_))
      | (show AWp _ _ _ _ _; first
          | refine AWp.seq ?_
          | refine AWp.region ?_
          | refine AWp.condT rfl ?_
          | refine AWp.condF rfl ?_
          | refine AWp.skip ?_
          | refine AWp.block ?_
          | refine AWp.exit ?_
          | refine AWp.ret ?_)
      | refine AThen.normal ?_
      | refine AThen.exit ?_
      | refine AThen.ret ?_
      | refine AThen.pan ?_
      | refine AInBlock.pan ?_
      | refine AInBlock.normal ?_
      | refine AInBlock.ret ?_
      | refine AInBlock.same ?_
      | refine AInBlock.other rfl ?_)
  all_goals refine bodyQ.one rfl rfl rfl ⟨?_, rfl⟩
  all_goals simp [isKeyB, keyList, *]

def nameB (b : ByteArray) : Bool := isNameB b && !(isKeyB b)

set_option maxHeartbeats 400000 in
theorem name_ok (b : ByteArray) (hb : b.size < 281474976710656) : Ans 63 [.str b] (.bool (nameB b)) := by
  intro M
  refine ACalls.of_body Try.func63 rfl rfl rfl ?_
  simp only [Try.ntmps63, frOf]
  repeat' (first
      | (show AOps _ _ _ _ _ _; first
          | refine AOps.nil ?_
          | refine AOps.plain rfl (W.pure rfl rfl rfl ?_)
          | refine AOps.plain rfl (W.callB rfl rfl rfl rfl rfl (isName_ok b hb M) rfl rfl (fun _ => ?_) (fun _ => ?_))
          | refine AOps.plain rfl (W.callB rfl rfl rfl rfl rfl (isKey_ok b M) rfl rfl (fun _ => ?_) (fun _ => ?_))
          | refine AOps.plain rfl (W.cmp rfl rfl rfl rfl (fun _ => ?_) (fun _ => ?_))
          | refine W.leave rfl rfl rfl rfl ?_
          | refine AOps.take rfl rfl (W.pure rfl rfl rfl ?_)
          | refine AOps.take rfl rfl (W.callB rfl rfl rfl rfl rfl (isName_ok b hb M) rfl rfl (fun _ => ?_) (fun _ => ?_))
          | refine AOps.take rfl rfl (W.callB rfl rfl rfl rfl rfl (isKey_ok b M) rfl rfl (fun _ => ?_) (fun _ => ?_))
          | refine AOps.take rfl rfl (W.cmp rfl rfl rfl rfl (fun _ => ?_) (fun _ => ?_))
          | refine AOps.plain rfl (W.boxI rfl rfl rfl rfl rfl rfl ?_)
          | refine AOps.plain rfl (W.build rfl rfl rfl rfl rfl rfl rfl ?_)
          | refine AOps.plain rfl (W.alloc rfl rfl rfl rfl rfl ?_)
          | refine AOps.plain rfl (W.storeL rfl rfl rfl rfl rfl rfl rfl rfl rfl ?_)
          | refine AOps.plain rfl (W.buildSlice rfl rfl rfl rfl rfl rfl rfl rfl rfl ?_))
      | (show AWp _ _ _ _ _; first
          | refine AWp.seq ?_
          | refine AWp.region ?_
          | refine AWp.condT rfl ?_
          | refine AWp.condF rfl ?_
          | refine AWp.skip ?_
          | refine AWp.block ?_
          | refine AWp.exit ?_
          | refine AWp.ret ?_)
      | refine AThen.normal ?_
      | refine AThen.exit ?_
      | refine AThen.ret ?_
      | refine AThen.pan ?_
      | refine AInBlock.pan ?_
      | refine AInBlock.normal ?_
      | refine AInBlock.ret ?_
      | refine AInBlock.same ?_
      | refine AInBlock.other rfl ?_)
  all_goals refine bodyQ.one rfl rfl rfl ⟨?_, rfl⟩
  all_goals simp [nameB, *]

/-- Has a node none of some fields. -/
def bareB (o n : Int) (s : ByteArray) (ns : List ByteArray) (bo bn bs bm : Bool) : Bool :=
  (!bo || o == 0) && (!bn || n == 0) && (!bs || seq s nothing) && (!bm || (ns.length : Int) == 0)

set_option maxHeartbeats 2000000 in
theorem bare_ok (k o n : Int) (s : ByteArray) (ns : List ByteArray) (ks : List Tree) (p : Int) (bo bn bs bm : Bool) :
    Ans 40 [(Tree.mk k o n s ns ks p).cv, .bool bo, .bool bn, .bool bs, .bool bm] (.bool (bareB o n s ns bo bn bs bm)) := by
  intro M
  refine ACalls.of_body Try.func40 rfl rfl rfl ?_
  simp only [Try.ntmps40, frOf]
  cases bo <;> cases bn <;> cases bs <;> cases bm
  all_goals repeat' (first
      | (show AOps _ _ _ _ _ _; first
          | refine AOps.nil ?_
          | refine AOps.plain rfl (W.pure rfl rfl rfl ?_)
          | refine AOps.plain rfl (W.cmp rfl rfl rfl rfl (fun _ => ?_) (fun _ => ?_))
          | refine W.leave rfl rfl rfl rfl ?_
          | refine AOps.take rfl rfl (W.pure rfl rfl rfl ?_)
          | refine AOps.take rfl rfl (W.cmp rfl rfl rfl rfl (fun _ => ?_) (fun _ => ?_))
          | refine AOps.plain rfl (W.boxI rfl rfl rfl rfl rfl rfl ?_)
          | refine AOps.plain rfl (W.build rfl rfl rfl rfl rfl rfl rfl ?_)
          | refine AOps.plain rfl (W.alloc rfl rfl rfl rfl rfl ?_)
          | refine AOps.plain rfl (W.storeL rfl rfl rfl rfl rfl rfl rfl rfl rfl ?_)
          | refine AOps.plain rfl (W.buildSlice rfl rfl rfl rfl rfl rfl rfl rfl rfl ?_))
      | (show AWp _ _ _ _ _; first
          | refine AWp.seq ?_
          | refine AWp.region ?_
          | refine AWp.condT rfl ?_
          | refine AWp.condF rfl ?_
          | refine AWp.skip ?_
          | refine AWp.block ?_
          | refine AWp.exit ?_
          | refine AWp.ret ?_)
      | refine AThen.normal ?_
      | refine AThen.exit ?_
      | refine AThen.ret ?_
      | refine AThen.pan ?_
      | refine AInBlock.pan ?_
      | refine AInBlock.normal ?_
      | refine AInBlock.ret ?_
      | refine AInBlock.same ?_
      | refine AInBlock.other rfl ?_)
  all_goals refine bodyQ.one rfl rfl rfl ⟨?_, rfl⟩
  all_goals simp [bareB, *]
  all_goals first | assumption | simp_all [nothing]

end Go.Proofs.Ytceocfancfjdjaa
