/- (D) The given reference: what stands in a node's fields. No condition. -/
import Derived.Test.YtceocfancfjdjaaRefC
namespace Go.Proofs.Ytceocfancfjdjaa
open Go Go.RowKit
attribute [local irreducible] ACalls AOps AOp AWp AWpL AThen AInBlock bodyQ seq DOps

def rf2 (k o : Int) : Bool := k == 9 && (decide (o < 1) || decide (o > 2))
def rf3 (k o : Int) : Bool := k == 10 && seq (signS o) nothing
def rf4 (k o : Int) : Bool := k == 17 && (decide (o < 1) || decide (o > 7))
def rf6 (k o : Int) : Bool := k != 9 && k != 10 && k != 17 && o != 0
def rf8 (k n : Int) : Bool := k == 2 && n != 0 && n != 1
def rf9 (k n : Int) : Bool := k == 3 && (decide (n < 0) || decide (n > 4611686018427387903))
def rf10 (k n : Int) : Bool := k != 2 && k != 3 && n != 0
def rf12 (k : Int) (s : ByteArray) : Bool := k == 4 && decide ((s.size : Int) > 256)
def rf13 (k : Int) (s : ByteArray) : Bool := (k == 5 || k == 21 || k == 22) && !nameB s
def rf15 (k : Int) : Bool := k == 13 || k == 16 || k == 23 || k == 25
def rf16 (k : Int) (s : ByteArray) : Bool := (rf15 k && !isNameB s) || (!rf15 k && k != 4 && k != 5 && k != 21 && k != 22 && !(seq s nothing))
def rf18 (k : Int) (ns : List ByteArray) : Bool := (k != 7 && k != 8 && decide ((ns.length : Int) > 0)) || (k == 7 && decide ((ns.length : Int) > 40)) || (k == 8 && decide ((ns.length : Int) > 6))
def rfN (k : Int) (x : ByteArray) : Bool := isNameB x && (!(k == 8) || nameB x)
def fieldsT (k o n : Int) (s : ByteArray) (ns : List ByteArray) : Bool :=
  !rf2 k o && !rf3 k o && !rf4 k o && !rf6 k o && !rf8 k n && !rf9 k n && !rf10 k n && !rf12 k s && !rf13 k s && !rf16 k s && !rf18 k ns && ns.all (rfN k)

theorem all_drop {α : Type} (l : List α) (p : α → Bool) {k : Nat} (h : k < l.length) : (l.drop k).all p = (p l[k] && (l.drop (k + 1)).all p) := by
  rw [List.drop_eq_getElem_cons h, List.all_cons]

set_option maxHeartbeats 2000000 in
theorem refFields_ok (k o n : Int) (s : ByteArray) (ns : List ByteArray) (ks : List Tree) (p : Int) (hs : s.size < 281474976710656) (hn : ns.length < 281474976710656) (hns : ∀ x, x ∈ ns → x.size < 281474976710656) :
    Ans 26 [(Tree.mk k o n s ns ks p).cv] (.bool (fieldsT k o n s ns)) := by
  intro M
  have hsg := refSign_ok o M
  have hnm := refName_ok s hs M
  have hin := refIsName_ok s hs M
  refine ACalls.of_body Try.func26 rfl rfl rfl ?_
  simp only [Try.ntmps26, frOf]
  repeat' (first
      | (show DOps _ _ _ _ _ _ _ _ _ _ _; first
          | refine D.end ?_
          | refine D.val (.inl rfl) rfl rfl rfl ?_
          | refine D.leave rfl rfl rfl rfl ?_
          | refine D.val (Wants.take rfl rfl) rfl rfl rfl ?_
          | refine D.cmp rfl (.inl rfl) rfl rfl rfl (fun _ => ?_) (fun _ => ?_)
          | refine D.valO (.inl rfl) rfl rfl rfl rfl ?_
          | refine D.build (.inl rfl) rfl rfl rfl rfl rfl rfl rfl ?_
          | refine D.buildSlice (.inl rfl) rfl rfl rfl rfl rfl rfl rfl rfl rfl ?_
          | refine D.cmp rfl (Wants.take rfl rfl) rfl rfl rfl (fun _ => ?_) (fun _ => ?_)
          | refine D.valO (Wants.take rfl rfl) rfl rfl rfl rfl ?_
          | refine D.build (Wants.take rfl rfl) rfl rfl rfl rfl rfl rfl rfl ?_
          | refine D.buildSlice (Wants.take rfl rfl) rfl rfl rfl rfl rfl rfl rfl rfl rfl ?_)
      | (show AOps _ _ _ _ _ _; first
          | refine AOps.nil ?_
          | refine AOps.plain rfl (W.pure rfl rfl rfl ?_)
          | refine AOps.plain rfl (W.callV rfl rfl rfl rfl rfl (hsg) rfl rfl rfl ?_)
          | refine AOps.plain rfl (W.callB rfl rfl rfl rfl rfl (hnm) rfl rfl (fun _ => ?_) (fun _ => ?_))
          | refine AOps.plain rfl (W.callB rfl rfl rfl rfl rfl (hin) rfl rfl (fun _ => ?_) (fun _ => ?_))
          | refine AOps.plain rfl (W.cmp rfl rfl rfl rfl (fun _ => ?_) (fun _ => ?_))
          | refine W.leave rfl rfl rfl rfl ?_
          | refine AOps.take rfl rfl (W.pure rfl rfl rfl ?_)
          | refine AOps.take rfl rfl (W.callV rfl rfl rfl rfl rfl (hsg) rfl rfl rfl ?_)
          | refine AOps.take rfl rfl (W.callB rfl rfl rfl rfl rfl (hnm) rfl rfl (fun _ => ?_) (fun _ => ?_))
          | refine AOps.take rfl rfl (W.callB rfl rfl rfl rfl rfl (hin) rfl rfl (fun _ => ?_) (fun _ => ?_))
          | refine AOps.take rfl rfl (W.cmp rfl rfl rfl rfl (fun _ => ?_) (fun _ => ?_))
          | refine AOps.plain rfl (W.boxI rfl rfl rfl rfl rfl rfl ?_)
          | refine AOps.plain rfl (W.build rfl rfl rfl rfl rfl rfl rfl ?_)
          | refine AOps.plain rfl (W.alloc rfl rfl rfl rfl rfl ?_)
          | refine AOps.plain rfl (W.storeL rfl rfl rfl rfl rfl rfl rfl rfl rfl ?_)
          | refine AOps.plain rfl (W.buildSlice rfl rfl rfl rfl rfl rfl rfl rfl rfl ?_))
      | (show AWp _ _ _ _ _; first
          | (show AWp _ _ (.seq (.region 2 _ _) _) _ _; refine AWp.cutR (id := 2) (fun st => ∃ fr, st = { fr := fr, loc := [], M := M, ds := [] } ∧ Sub fr [(1, .iptr (Tree.mk k o n s ns ks p).cells 0), (3, .int .i64 k), (8, .bool (rf2 k o))]) ?_ ?_; rotate_left; (rintro _ ⟨fr, rfl, hsub⟩; refine AWp.mask hsub ?_; clear hsub; cases h2 : (rf2 k o)))
          | (show AWp _ _ (.region 2 _ _) _ _; refine AWp.cutB (id := 2) (fun st => ∃ fr, st = { fr := fr, loc := [], M := M, ds := [] } ∧ Sub fr [(1, .iptr (Tree.mk k o n s ns ks p).cells 0), (3, .int .i64 k), (8, .bool (rf2 k o))]) ?_ ?_; rotate_left; (rintro _ ⟨fr, rfl, hsub⟩; refine AThen.normal ?_; refine AWp.mask hsub ?_; clear hsub; cases h2 : (rf2 k o)))
          | (show AWp _ _ (.seq (.region 3 _ _) _) _ _; refine AWp.cutR (id := 3) (fun st => ∃ fr, st = { fr := fr, loc := [], M := M, ds := [] } ∧ Sub fr [(1, .iptr (Tree.mk k o n s ns ks p).cells 0), (3, .int .i64 k), (8, .bool (rf3 k o))]) ?_ ?_; rotate_left; (rintro _ ⟨fr, rfl, hsub⟩; refine AWp.mask hsub ?_; clear hsub; cases h3 : (rf3 k o)))
          | (show AWp _ _ (.region 3 _ _) _ _; refine AWp.cutB (id := 3) (fun st => ∃ fr, st = { fr := fr, loc := [], M := M, ds := [] } ∧ Sub fr [(1, .iptr (Tree.mk k o n s ns ks p).cells 0), (3, .int .i64 k), (8, .bool (rf3 k o))]) ?_ ?_; rotate_left; (rintro _ ⟨fr, rfl, hsub⟩; refine AThen.normal ?_; refine AWp.mask hsub ?_; clear hsub; cases h3 : (rf3 k o)))
          | (show AWp _ _ (.seq (.region 4 _ _) _) _ _; refine AWp.cutR (id := 4) (fun st => ∃ fr, st = { fr := fr, loc := [], M := M, ds := [] } ∧ Sub fr [(1, .iptr (Tree.mk k o n s ns ks p).cells 0), (3, .int .i64 k), (8, .bool (rf4 k o))]) ?_ ?_; rotate_left; (rintro _ ⟨fr, rfl, hsub⟩; refine AWp.mask hsub ?_; clear hsub; cases h4 : (rf4 k o)))
          | (show AWp _ _ (.region 4 _ _) _ _; refine AWp.cutB (id := 4) (fun st => ∃ fr, st = { fr := fr, loc := [], M := M, ds := [] } ∧ Sub fr [(1, .iptr (Tree.mk k o n s ns ks p).cells 0), (3, .int .i64 k), (8, .bool (rf4 k o))]) ?_ ?_; rotate_left; (rintro _ ⟨fr, rfl, hsub⟩; refine AThen.normal ?_; refine AWp.mask hsub ?_; clear hsub; cases h4 : (rf4 k o)))
          | (show AWp _ _ (.seq (.region 6 _ _) _) _ _; refine AWp.cutR (id := 6) (fun st => ∃ fr, st = { fr := fr, loc := [], M := M, ds := [] } ∧ Sub fr [(1, .iptr (Tree.mk k o n s ns ks p).cells 0), (3, .int .i64 k), (41, .bool (rf6 k o))]) ?_ ?_; rotate_left; (rintro _ ⟨fr, rfl, hsub⟩; refine AWp.mask hsub ?_; clear hsub; cases h6 : (rf6 k o)))
          | (show AWp _ _ (.region 6 _ _) _ _; refine AWp.cutB (id := 6) (fun st => ∃ fr, st = { fr := fr, loc := [], M := M, ds := [] } ∧ Sub fr [(1, .iptr (Tree.mk k o n s ns ks p).cells 0), (3, .int .i64 k), (41, .bool (rf6 k o))]) ?_ ?_; rotate_left; (rintro _ ⟨fr, rfl, hsub⟩; refine AThen.normal ?_; refine AWp.mask hsub ?_; clear hsub; cases h6 : (rf6 k o)))
          | (show AWp _ _ (.seq (.region 8 _ _) _) _ _; refine AWp.cutR (id := 8) (fun st => ∃ fr, st = { fr := fr, loc := [], M := M, ds := [] } ∧ Sub fr [(1, .iptr (Tree.mk k o n s ns ks p).cells 0), (3, .int .i64 k), (57, .bool (rf8 k n))]) ?_ ?_; rotate_left; (rintro _ ⟨fr, rfl, hsub⟩; refine AWp.mask hsub ?_; clear hsub; cases h8 : (rf8 k n)))
          | (show AWp _ _ (.region 8 _ _) _ _; refine AWp.cutB (id := 8) (fun st => ∃ fr, st = { fr := fr, loc := [], M := M, ds := [] } ∧ Sub fr [(1, .iptr (Tree.mk k o n s ns ks p).cells 0), (3, .int .i64 k), (57, .bool (rf8 k n))]) ?_ ?_; rotate_left; (rintro _ ⟨fr, rfl, hsub⟩; refine AThen.normal ?_; refine AWp.mask hsub ?_; clear hsub; cases h8 : (rf8 k n)))
          | (show AWp _ _ (.seq (.region 9 _ _) _) _ _; refine AWp.cutR (id := 9) (fun st => ∃ fr, st = { fr := fr, loc := [], M := M, ds := [] } ∧ Sub fr [(1, .iptr (Tree.mk k o n s ns ks p).cells 0), (3, .int .i64 k), (57, .bool (rf9 k n))]) ?_ ?_; rotate_left; (rintro _ ⟨fr, rfl, hsub⟩; refine AWp.mask hsub ?_; clear hsub; cases h9 : (rf9 k n)))
          | (show AWp _ _ (.region 9 _ _) _ _; refine AWp.cutB (id := 9) (fun st => ∃ fr, st = { fr := fr, loc := [], M := M, ds := [] } ∧ Sub fr [(1, .iptr (Tree.mk k o n s ns ks p).cells 0), (3, .int .i64 k), (57, .bool (rf9 k n))]) ?_ ?_; rotate_left; (rintro _ ⟨fr, rfl, hsub⟩; refine AThen.normal ?_; refine AWp.mask hsub ?_; clear hsub; cases h9 : (rf9 k n)))
          | (show AWp _ _ (.seq (.region 10 _ _) _) _ _; refine AWp.cutR (id := 10) (fun st => ∃ fr, st = { fr := fr, loc := [], M := M, ds := [] } ∧ Sub fr [(1, .iptr (Tree.mk k o n s ns ks p).cells 0), (3, .int .i64 k), (57, .bool (rf10 k n))]) ?_ ?_; rotate_left; (rintro _ ⟨fr, rfl, hsub⟩; refine AWp.mask hsub ?_; clear hsub; cases h10 : (rf10 k n)))
          | (show AWp _ _ (.region 10 _ _) _ _; refine AWp.cutB (id := 10) (fun st => ∃ fr, st = { fr := fr, loc := [], M := M, ds := [] } ∧ Sub fr [(1, .iptr (Tree.mk k o n s ns ks p).cells 0), (3, .int .i64 k), (57, .bool (rf10 k n))]) ?_ ?_; rotate_left; (rintro _ ⟨fr, rfl, hsub⟩; refine AThen.normal ?_; refine AWp.mask hsub ?_; clear hsub; cases h10 : (rf10 k n)))
          | (show AWp _ _ (.seq (.region 12 _ _) _) _ _; refine AWp.cutR (id := 12) (fun st => ∃ fr, st = { fr := fr, loc := [], M := M, ds := [] } ∧ Sub fr [(1, .iptr (Tree.mk k o n s ns ks p).cells 0), (3, .int .i64 k), (93, .bool (rf12 k s))]) ?_ ?_; rotate_left; (rintro _ ⟨fr, rfl, hsub⟩; refine AWp.mask hsub ?_; clear hsub; cases h12 : (rf12 k s)))
          | (show AWp _ _ (.region 12 _ _) _ _; refine AWp.cutB (id := 12) (fun st => ∃ fr, st = { fr := fr, loc := [], M := M, ds := [] } ∧ Sub fr [(1, .iptr (Tree.mk k o n s ns ks p).cells 0), (3, .int .i64 k), (93, .bool (rf12 k s))]) ?_ ?_; rotate_left; (rintro _ ⟨fr, rfl, hsub⟩; refine AThen.normal ?_; refine AWp.mask hsub ?_; clear hsub; cases h12 : (rf12 k s)))
          | (show AWp _ _ (.seq (.region 13 _ _) _) _ _; refine AWp.cutR (id := 13) (fun st => ∃ fr, st = { fr := fr, loc := [], M := M, ds := [] } ∧ Sub fr [(1, .iptr (Tree.mk k o n s ns ks p).cells 0), (3, .int .i64 k), (93, .bool (rf13 k s))]) ?_ ?_; rotate_left; (rintro _ ⟨fr, rfl, hsub⟩; refine AWp.mask hsub ?_; clear hsub; cases h13 : (rf13 k s)))
          | (show AWp _ _ (.region 13 _ _) _ _; refine AWp.cutB (id := 13) (fun st => ∃ fr, st = { fr := fr, loc := [], M := M, ds := [] } ∧ Sub fr [(1, .iptr (Tree.mk k o n s ns ks p).cells 0), (3, .int .i64 k), (93, .bool (rf13 k s))]) ?_ ?_; rotate_left; (rintro _ ⟨fr, rfl, hsub⟩; refine AThen.normal ?_; refine AWp.mask hsub ?_; clear hsub; cases h13 : (rf13 k s)))
          | (show AWp _ _ (.seq (.region 15 _ _) _) _ _; refine AWp.cutR (id := 15) (fun st => ∃ fr, st = { fr := fr, loc := [], M := M, ds := [] } ∧ Sub fr [(1, .iptr (Tree.mk k o n s ns ks p).cells 0), (3, .int .i64 k), (4, .bool (rf15 k))]) ?_ ?_; rotate_left; (rintro _ ⟨fr, rfl, hsub⟩; refine AWp.mask hsub ?_; clear hsub; cases h15 : (rf15 k)))
          | (show AWp _ _ (.region 15 _ _) _ _; refine AWp.cutB (id := 15) (fun st => ∃ fr, st = { fr := fr, loc := [], M := M, ds := [] } ∧ Sub fr [(1, .iptr (Tree.mk k o n s ns ks p).cells 0), (3, .int .i64 k), (4, .bool (rf15 k))]) ?_ ?_; rotate_left; (rintro _ ⟨fr, rfl, hsub⟩; refine AThen.normal ?_; refine AWp.mask hsub ?_; clear hsub; cases h15 : (rf15 k)))
          | (show AWp _ _ (.seq (.region 16 _ _) _) _ _; refine AWp.cutR (id := 16) (fun st => ∃ fr, st = { fr := fr, loc := [], M := M, ds := [] } ∧ Sub fr [(1, .iptr (Tree.mk k o n s ns ks p).cells 0), (3, .int .i64 k), (163, .bool (rf16 k s))]) ?_ ?_; rotate_left; (rintro _ ⟨fr, rfl, hsub⟩; refine AWp.mask hsub ?_; clear hsub; cases h16 : (rf16 k s)))
          | (show AWp _ _ (.region 16 _ _) _ _; refine AWp.cutB (id := 16) (fun st => ∃ fr, st = { fr := fr, loc := [], M := M, ds := [] } ∧ Sub fr [(1, .iptr (Tree.mk k o n s ns ks p).cells 0), (3, .int .i64 k), (163, .bool (rf16 k s))]) ?_ ?_; rotate_left; (rintro _ ⟨fr, rfl, hsub⟩; refine AThen.normal ?_; refine AWp.mask hsub ?_; clear hsub; cases h16 : (rf16 k s)))
          | (show AWp _ _ (.seq (.region 18 _ _) _) _ _; refine AWp.cutR (id := 18) (fun st => ∃ fr, st = { fr := fr, loc := [], M := M, ds := [] } ∧ Sub fr [(1, .iptr (Tree.mk k o n s ns ks p).cells 0), (3, .int .i64 k), (195, .bool (rf18 k ns))]) ?_ ?_; rotate_left; (rintro _ ⟨fr, rfl, hsub⟩; refine AWp.mask hsub ?_; clear hsub; cases h18 : (rf18 k ns)))
          | (show AWp _ _ (.region 18 _ _) _ _; refine AWp.cutB (id := 18) (fun st => ∃ fr, st = { fr := fr, loc := [], M := M, ds := [] } ∧ Sub fr [(1, .iptr (Tree.mk k o n s ns ks p).cells 0), (3, .int .i64 k), (195, .bool (rf18 k ns))]) ?_ ?_; rotate_left; (rintro _ ⟨fr, rfl, hsub⟩; refine AThen.normal ?_; refine AWp.mask hsub ?_; clear hsub; cases h18 : (rf18 k ns)))
          | refine AWp.seq ?_
          | refine AWp.region ?_
          | refine AWp.condT rfl ?_
          | refine AWp.condF rfl ?_
          | refine AWp.skip ?_
          | refine AWp.block ?_
          | refine AWp.exit ?_
          | refine AWp.ret ?_
          | refine AWp.draw0 (by kernel_rfl) ?_)
      | (show ∃ _, _ ∧ _; first
            | (show ∃ fr, _ = _ ∧ Sub fr [_, _, (8, .bool (rf2 k o))]; exact ⟨_, rfl, rfl, rfl, subBool (by clear hsg hnm hin hs hn hns; first | (simp [rf2, nothing, *]; done) | (simp_all [rf2, nothing]; done)), trivial⟩)
            | (show ∃ fr, _ = _ ∧ Sub fr [_, _, (8, .bool (rf3 k o))]; exact ⟨_, rfl, rfl, rfl, subBool (by clear hsg hnm hin hs hn hns; first | (simp [rf3, nothing, *]; done) | (simp_all [rf3, nothing]; done)), trivial⟩)
            | (show ∃ fr, _ = _ ∧ Sub fr [_, _, (8, .bool (rf4 k o))]; exact ⟨_, rfl, rfl, rfl, subBool (by clear hsg hnm hin hs hn hns; first | (simp [rf4, nothing, *]; done) | (simp_all [rf4, nothing]; done)), trivial⟩)
            | (show ∃ fr, _ = _ ∧ Sub fr [_, _, (41, .bool (rf6 k o))]; exact ⟨_, rfl, rfl, rfl, subBool (by clear hsg hnm hin hs hn hns; first | (simp [rf6, nothing, *]; done) | (simp_all [rf6, nothing]; done)), trivial⟩)
            | (show ∃ fr, _ = _ ∧ Sub fr [_, _, (57, .bool (rf8 k n))]; exact ⟨_, rfl, rfl, rfl, subBool (by clear hsg hnm hin hs hn hns; first | (simp [rf8, nothing, *]; done) | (simp_all [rf8, nothing]; done)), trivial⟩)
            | (show ∃ fr, _ = _ ∧ Sub fr [_, _, (57, .bool (rf9 k n))]; exact ⟨_, rfl, rfl, rfl, subBool (by clear hsg hnm hin hs hn hns; first | (simp [rf9, nothing, *]; done) | (simp_all [rf9, nothing]; done)), trivial⟩)
            | (show ∃ fr, _ = _ ∧ Sub fr [_, _, (57, .bool (rf10 k n))]; exact ⟨_, rfl, rfl, rfl, subBool (by clear hsg hnm hin hs hn hns; first | (simp [rf10, nothing, *]; done) | (simp_all [rf10, nothing]; done)), trivial⟩)
            | (show ∃ fr, _ = _ ∧ Sub fr [_, _, (93, .bool (rf12 k s))]; exact ⟨_, rfl, rfl, rfl, subBool (by clear hsg hnm hin hs hn hns; first | (simp [rf12, nothing, *]; done) | (simp_all [rf12, nothing]; done)), trivial⟩)
            | (show ∃ fr, _ = _ ∧ Sub fr [_, _, (93, .bool (rf13 k s))]; exact ⟨_, rfl, rfl, rfl, subBool (by clear hsg hnm hin hs hn hns; first | (simp [rf13, nothing, *]; done) | (simp_all [rf13, nothing]; done)), trivial⟩)
            | (show ∃ fr, _ = _ ∧ Sub fr [_, _, (4, .bool (rf15 k))]; exact ⟨_, rfl, rfl, rfl, subBool (by clear hsg hnm hin hs hn hns; first | (simp [rf15, nothing, *]; done) | (simp_all [rf15, nothing]; done)), trivial⟩)
            | (show ∃ fr, _ = _ ∧ Sub fr [_, _, (163, .bool (rf16 k s))]; exact ⟨_, rfl, rfl, rfl, subBool (by clear hsg hnm hin hs hn hns; first | (simp [rf16, nothing, *]; done) | (simp_all [rf16, nothing]; done)), trivial⟩)
            | (show ∃ fr, _ = _ ∧ Sub fr [_, _, (195, .bool (rf18 k ns))]; exact ⟨_, rfl, rfl, rfl, subBool (by clear hsg hnm hin hs hn hns; first | (simp [rf18, nothing, *]; done) | (simp_all [rf18, nothing]; done)), trivial⟩))
      | refine AThen.normal ?_
      | refine AThen.exit ?_
      | refine AThen.ret ?_
      | refine AThen.pan ?_
      | refine AInBlock.pan ?_
      | refine AInBlock.normal ?_
      | refine AInBlock.ret ?_
      | refine AInBlock.same ?_
      | refine AInBlock.other rfl ?_)
  all_goals clear hsg hnm hin
  all_goals first
    | (refine bodyQ.one rfl rfl rfl ⟨?_, rfl⟩; simp [fieldsT, *]; done)
    | skip
  all_goals refine AWp.loop ?_
  all_goals
    refine AWpL.upto (fun j st => ns.all (rfN k) = (ns.drop j).all (rfN k) ∧
      ∃ fr, st = { fr := fr, loc := [], M := M, ds := [] } ∧ Sub fr [(1, .iptr (Tree.mk k o n s ns ks p).cells 0), (3, .int .i64 k), (5, .int .i64 (j : Int))]) ns.length ?_ 0 _ (Nat.zero_le _)
      ⟨rfl, _, rfl, rfl, rfl, rfl, trivial⟩
    rintro j st hj ⟨hpre, fr, rfl, hsub⟩ hnext
    refine AWp.mask hsub ?_
    clear hsub
    by_cases hlt : j < ns.length
    · have hst := all_drop ns (rfN k) hlt
      have h1 := refIsName_ok ns[j] (hns _ (List.getElem_mem _)) M
      have h2' := refName_ok ns[j] (hns _ (List.getElem_mem _)) M
      repeat' (first
          | (show DOps _ _ _ _ _ _ _ _ _ _ _; first
              | refine D.end ?_
              | refine D.val (.inl rfl) rfl rfl rfl ?_
              | refine D.leave rfl rfl rfl rfl ?_
              | refine D.val (Wants.take rfl rfl) rfl rfl rfl ?_
              | refine (D.cmpT rfl (.inl rfl) rfl rfl rfl (decide_eq_true (by omega)) ?_)
              | refine D.cmp rfl (.inl rfl) rfl rfl rfl (fun _ => ?_) (fun _ => ?_)
              | refine D.valO (.inl rfl) rfl rfl rfl rfl ?_
              | refine D.build (.inl rfl) rfl rfl rfl rfl rfl rfl rfl ?_
              | refine D.buildSlice (.inl rfl) rfl rfl rfl rfl rfl rfl rfl rfl rfl ?_
              | refine (D.cmpT rfl (Wants.take rfl rfl) rfl rfl rfl (decide_eq_true (by omega)) ?_)
              | refine D.cmp rfl (Wants.take rfl rfl) rfl rfl rfl (fun _ => ?_) (fun _ => ?_)
              | refine D.valO (Wants.take rfl rfl) rfl rfl rfl rfl ?_
              | refine D.build (Wants.take rfl rfl) rfl rfl rfl rfl rfl rfl rfl ?_
              | refine D.buildSlice (Wants.take rfl rfl) rfl rfl rfl rfl rfl rfl rfl rfl rfl ?_)
          | (show AOps _ _ _ _ _ _; first
              | refine AOps.nil ?_
              | refine AOps.plain rfl (W.pure rfl rfl rfl ?_)
              | refine AOps.plain rfl (W.cmpT rfl rfl rfl rfl (decide_eq_true (by omega)) ?_)
              | refine AOps.plain rfl (W.indexAddr rfl rfl rfl rfl rfl rfl (by omega) (by omega) (strs_ne hlt) ?_)
              | refine AOps.plain rfl (W.loadRow rfl rfl rfl rfl (ld_name hlt) ?_)
              | refine AOps.plain rfl (W.callB rfl rfl rfl rfl rfl (h1) rfl rfl (fun _ => ?_) (fun _ => ?_))
              | refine AOps.plain rfl (W.callB rfl rfl rfl rfl rfl (h2') rfl rfl (fun _ => ?_) (fun _ => ?_))
              | refine AOps.plain rfl (W.cmp rfl rfl rfl rfl (fun _ => ?_) (fun _ => ?_))
              | refine W.leave rfl rfl rfl rfl ?_
              | refine AOps.take rfl rfl (W.pure rfl rfl rfl ?_)
              | refine AOps.take rfl rfl (W.cmpT rfl rfl rfl rfl (decide_eq_true (by omega)) ?_)
              | refine AOps.take rfl rfl (W.indexAddr rfl rfl rfl rfl rfl rfl (by omega) (by omega) (strs_ne hlt) ?_)
              | refine AOps.take rfl rfl (W.loadRow rfl rfl rfl rfl (ld_name hlt) ?_)
              | refine AOps.take rfl rfl (W.callB rfl rfl rfl rfl rfl (h1) rfl rfl (fun _ => ?_) (fun _ => ?_))
              | refine AOps.take rfl rfl (W.callB rfl rfl rfl rfl rfl (h2') rfl rfl (fun _ => ?_) (fun _ => ?_))
              | refine AOps.take rfl rfl (W.cmp rfl rfl rfl rfl (fun _ => ?_) (fun _ => ?_))
              | refine AOps.plain rfl (W.boxI rfl rfl rfl rfl rfl rfl ?_)
              | refine AOps.plain rfl (W.build rfl rfl rfl rfl rfl rfl rfl ?_)
              | refine AOps.plain rfl (W.alloc rfl rfl rfl rfl rfl ?_)
              | refine AOps.plain rfl (W.storeL rfl rfl rfl rfl rfl rfl rfl rfl rfl ?_)
              | refine AOps.plain rfl (W.buildSlice rfl rfl rfl rfl rfl rfl rfl rfl rfl ?_))
          | (show AWp _ _ _ _ _; first
              | refine AWp.seq ?_
              | refine AWp.region ?_
              | refine AWp.condT rfl ?_
              | refine AWp.condF rfl ?_
              | refine AWp.skip ?_
              | refine AWp.block ?_
              | refine AWp.exit ?_
              | refine AWp.ret ?_
              | refine AWp.draw0 (by kernel_rfl) ?_)
          | refine AThen.normal ?_
          | refine AThen.exit ?_
          | refine AThen.ret ?_
          | refine AThen.pan ?_
          | refine AInBlock.pan ?_
          | refine AInBlock.normal ?_
          | refine AInBlock.ret ?_
          | refine AInBlock.same ?_
          | refine AInBlock.other rfl ?_)
      all_goals clear h1 h2'
      all_goals first
        | (refine bodyQ.one rfl rfl rfl ⟨?_, rfl⟩; simp [fieldsT, hpre, hst, rfN, *]; done)
        | (refine hnext.out _ hlt ⟨?_, _, rfl, rfl, rfl, subInt (wrapAdd (by omega) (by omega)), trivial⟩; clear hnext; rw [hpre, hst]; simp [rfN, *]; done)
    · repeat' (first
        | (show DOps _ _ _ _ _ _ _ _ _ _ _; first
            | refine D.end ?_
            | refine D.val (.inl rfl) rfl rfl rfl ?_
            | refine D.leave rfl rfl rfl rfl ?_
            | refine D.val (Wants.take rfl rfl) rfl rfl rfl ?_
            | refine (D.cmpF rfl (.inl rfl) rfl rfl rfl (decide_eq_false (by omega)) ?_)
            | refine D.cmp rfl (.inl rfl) rfl rfl rfl (fun _ => ?_) (fun _ => ?_)
            | refine D.valO (.inl rfl) rfl rfl rfl rfl ?_
            | refine D.build (.inl rfl) rfl rfl rfl rfl rfl rfl rfl ?_
            | refine D.buildSlice (.inl rfl) rfl rfl rfl rfl rfl rfl rfl rfl rfl ?_
            | refine (D.cmpF rfl (Wants.take rfl rfl) rfl rfl rfl (decide_eq_false (by omega)) ?_)
            | refine D.cmp rfl (Wants.take rfl rfl) rfl rfl rfl (fun _ => ?_) (fun _ => ?_)
            | refine D.valO (Wants.take rfl rfl) rfl rfl rfl rfl ?_
            | refine D.build (Wants.take rfl rfl) rfl rfl rfl rfl rfl rfl rfl ?_
            | refine D.buildSlice (Wants.take rfl rfl) rfl rfl rfl rfl rfl rfl rfl rfl rfl ?_)
        | (show AOps _ _ _ _ _ _; first
            | refine AOps.nil ?_
            | refine AOps.plain rfl (W.pure rfl rfl rfl ?_)
            | refine AOps.plain rfl (W.cmpF rfl rfl rfl rfl (decide_eq_false (by omega)) ?_)
            | refine AOps.plain rfl (W.cmp rfl rfl rfl rfl (fun _ => ?_) (fun _ => ?_))
            | refine W.leave rfl rfl rfl rfl ?_
            | refine AOps.take rfl rfl (W.pure rfl rfl rfl ?_)
            | refine AOps.take rfl rfl (W.cmpF rfl rfl rfl rfl (decide_eq_false (by omega)) ?_)
            | refine AOps.take rfl rfl (W.cmp rfl rfl rfl rfl (fun _ => ?_) (fun _ => ?_))
            | refine AOps.plain rfl (W.boxI rfl rfl rfl rfl rfl rfl ?_)
            | refine AOps.plain rfl (W.build rfl rfl rfl rfl rfl rfl rfl ?_)
            | refine AOps.plain rfl (W.alloc rfl rfl rfl rfl rfl ?_)
            | refine AOps.plain rfl (W.storeL rfl rfl rfl rfl rfl rfl rfl rfl rfl ?_)
            | refine AOps.plain rfl (W.buildSlice rfl rfl rfl rfl rfl rfl rfl rfl rfl ?_))
        | (show AWp _ _ _ _ _; first
            | refine AWp.seq ?_
            | refine AWp.region ?_
            | refine AWp.condT rfl ?_
            | refine AWp.condF rfl ?_
            | refine AWp.skip ?_
            | refine AWp.block ?_
            | refine AWp.exit ?_
            | refine AWp.ret ?_
            | refine AWp.draw0 (by kernel_rfl) ?_)
        | refine AThen.normal ?_
        | refine AThen.exit ?_
        | refine AThen.ret ?_
        | refine AThen.pan ?_
        | refine AInBlock.pan ?_
        | refine AInBlock.normal ?_
        | refine AInBlock.ret ?_
        | refine AInBlock.same ?_
        | refine AInBlock.other rfl ?_)
      refine bodyQ.one rfl rfl rfl ⟨?_, rfl⟩
      clear hnext
      have hno : ns.all (rfN k) = true := by rw [hpre, List.drop_eq_nil_of_le (by omega)]; rfl
      simp [fieldsT, hno, *]

end Go.Proofs.Ytceocfancfjdjaa
