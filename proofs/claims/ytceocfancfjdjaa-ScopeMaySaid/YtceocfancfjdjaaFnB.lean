/- The tests of names, signs and built-in calls: what each answers. No condition. -/
import Derived.Test.YtceocfancfjdjaaFnA
namespace Go.Proofs.Ytceocfancfjdjaa
open Go Go.RowKit
attribute [local irreducible] ACalls AOps AOp AWp AWpL AThen AInBlock bodyQ seq

def nothing : ByteArray := ⟨#[]⟩

/-! ### names -/
def digitB (c : Int) : Bool := !(decide (c < 48) || decide (c > 57))
def okAt (b : ByteArray) (i : Nat) : Bool := letterB (byteI b i) || (!(i == 0) && digitB (byteI b i))
def okFrom (b : ByteArray) (i : Nat) : Bool := (List.range b.size).all fun j => decide (j < i) || okAt b j
def isNameB (b : ByteArray) : Bool := !(seq b nothing) && !(decide ((b.size : Int) > 12)) && okFrom b 0

theorem okFrom_end (b : ByteArray) {i : Nat} (h : ¬ i < b.size) : okFrom b i = true := by
  unfold okFrom
  rw [List.all_eq_true]
  intro j hj
  have : j < b.size := List.mem_range.1 hj
  simp only [Bool.or_eq_true, decide_eq_true_eq]
  left; omega

theorem okFrom_step (b : ByteArray) {i : Nat} (h : i < b.size) : okFrom b i = (okAt b i && okFrom b (i + 1)) := by
  unfold okFrom
  rw [Bool.eq_iff_iff]
  simp only [List.all_eq_true, List.mem_range, Bool.or_eq_true, decide_eq_true_eq, Bool.and_eq_true]
  constructor
  · intro hh
    refine ⟨(hh i h).resolve_left (by omega), fun j hj => ?_⟩
    rcases hh j hj with h1 | h1
    · left; omega
    · right; exact h1
  · rintro ⟨h1, h2⟩ j hj
    by_cases e : j = i
    · subst e; right; exact h1
    · rcases h2 j hj with h3 | h3
      · left; omega
      · right; exact h3

set_option maxHeartbeats 4000000 in
theorem isName_ok (b : ByteArray) (hb : b.size < 281474976710656) : Ans 47 [.str b] (.bool (isNameB b)) := by
  intro M
  refine ACalls.of_body Try.func47 rfl rfl rfl ?_
  simp only [Try.ntmps47, frOf]
  cases h1 : seq b nothing with
  | true =>
    repeat' (first
        | (show AOps _ _ _ _ _ _; first
            | refine AOps.nil ?_
            | refine AOps.plain rfl (W.pure rfl rfl rfl ?_)
            | refine AOps.plain rfl (W.cmpT rfl rfl rfl rfl (h1) ?_)
            | refine AOps.plain rfl (W.cmp rfl rfl rfl rfl (fun _ => ?_) (fun _ => ?_))
            | refine W.leave rfl rfl rfl rfl ?_
            | refine AOps.take rfl rfl (W.pure rfl rfl rfl ?_)
            | refine AOps.take rfl rfl (W.cmpT rfl rfl rfl rfl (h1) ?_)
            | refine AOps.take rfl rfl (W.cmp rfl rfl rfl rfl (fun _ => ?_) (fun _ => ?_))
            | refine AOps.plain rfl (W.boxI rfl rfl rfl rfl rfl rfl ?_)
            | refine AOps.plain rfl (W.build rfl rfl rfl rfl rfl rfl rfl ?_)
            | refine AOps.plain rfl (W.alloc rfl rfl rfl rfl rfl ?_)
            | refine AOps.plain rfl (W.storeL rfl rfl rfl rfl rfl rfl rfl rfl rfl ?_)
            | refine AOps.plain rfl (W.buildSlice rfl rfl rfl rfl rfl rfl rfl rfl rfl ?_))
        | (show AWp _ _ _ _ _; first
            | refine AWp.seq ?_
            | refine AWp.region ?_
            | refine AWp.condT rfl ?_
            | refine AWp.condF rfl ?_
            | refine AWp.skip ?_
            | refine AWp.block ?_
            | refine AWp.exit ?_
            | refine AWp.ret ?_)
        | refine AThen.normal ?_
        | refine AThen.exit ?_
        | refine AThen.ret ?_
        | refine AThen.pan ?_
        | refine AInBlock.pan ?_
        | refine AInBlock.normal ?_
        | refine AInBlock.ret ?_
        | refine AInBlock.same ?_
        | refine AInBlock.other rfl ?_)
    exact bodyQ.one rfl rfl rfl ⟨by simp [isNameB, h1], rfl⟩
  | false =>
    cases h2 : decide ((b.size : Int) > 12) with
    | true =>
      repeat' (first
          | (show AOps _ _ _ _ _ _; first
              | refine AOps.nil ?_
              | refine AOps.plain rfl (W.pure rfl rfl rfl ?_)
              | refine AOps.plain rfl (W.cmpF rfl rfl rfl rfl (h1) ?_)
              | refine AOps.plain rfl (W.cmpT rfl rfl rfl rfl (h2) ?_)
              | refine AOps.plain rfl (W.cmp rfl rfl rfl rfl (fun _ => ?_) (fun _ => ?_))
              | refine W.leave rfl rfl rfl rfl ?_
              | refine AOps.take rfl rfl (W.pure rfl rfl rfl ?_)
              | refine AOps.take rfl rfl (W.cmpF rfl rfl rfl rfl (h1) ?_)
              | refine AOps.take rfl rfl (W.cmpT rfl rfl rfl rfl (h2) ?_)
              | refine AOps.take rfl rfl (W.cmp rfl rfl rfl rfl (fun _ => ?_) (fun _ => ?_))
              | refine AOps.plain rfl (W.boxI rfl rfl rfl rfl rfl rfl ?_)
              | refine AOps.plain rfl (W.build rfl rfl rfl rfl rfl rfl rfl ?_)
              | refine AOps.plain rfl (W.alloc rfl rfl rfl rfl rfl ?_)
              | refine AOps.plain rfl (W.storeL rfl rfl rfl rfl rfl rfl rfl rfl rfl ?_)
              | refine AOps.plain rfl (W.buildSlice rfl rfl rfl rfl rfl rfl rfl rfl rfl ?_))
          | (show AWp _ _ _ _ _; first
              | refine AWp.seq ?_
              | refine AWp.region ?_
              | refine AWp.condT rfl ?_
              | refine AWp.condF rfl ?_
              | refine AWp.skip ?_
              | refine AWp.block ?_
              | refine AWp.exit ?_
              | refine AWp.ret ?_)
          | refine AThen.normal ?_
          | refine AThen.exit ?_
          | refine AThen.ret ?_
          | refine AThen.pan ?_
          | refine AInBlock.pan ?_
          | refine AInBlock.normal ?_
          | refine AInBlock.ret ?_
          | refine AInBlock.same ?_
          | refine AInBlock.other rfl ?_)
      exact bodyQ.one rfl rfl rfl ⟨by simp [isNameB, h1, h2], rfl⟩
    | false =>
      have hres : isNameB b = okFrom b 0 := by simp [isNameB, h1, h2]
      repeat' (first
          | (show AOps _ _ _ _ _ _; first
              | refine AOps.nil ?_
              | refine AOps.plain rfl (W.pure rfl rfl rfl ?_)
              | refine AOps.plain rfl (W.cmpF rfl rfl rfl rfl (h1) ?_)
              | refine AOps.plain rfl (W.cmpF rfl rfl rfl rfl (h2) ?_)
              | refine AOps.plain rfl (W.cmp rfl rfl rfl rfl (fun _ => ?_) (fun _ => ?_))
              | refine W.leave rfl rfl rfl rfl ?_
              | refine AOps.take rfl rfl (W.pure rfl rfl rfl ?_)
              | refine AOps.take rfl rfl (W.cmpF rfl rfl rfl rfl (h1) ?_)
              | refine AOps.take rfl rfl (W.cmpF rfl rfl rfl rfl (h2) ?_)
              | refine AOps.take rfl rfl (W.cmp rfl rfl rfl rfl (fun _ => ?_) (fun _ => ?_))
              | refine AOps.plain rfl (W.boxI rfl rfl rfl rfl rfl rfl ?_)
              | refine AOps.plain rfl (W.build rfl rfl rfl rfl rfl rfl rfl ?_)
              | refine AOps.plain rfl (W.alloc rfl rfl rfl rfl rfl ?_)
              | refine AOps.plain rfl (W.storeL rfl rfl rfl rfl rfl rfl rfl rfl rfl ?_)
              | refine AOps.plain rfl (W.buildSlice rfl rfl rfl rfl rfl rfl rfl rfl rfl ?_))
          | (show AWp _ _ _ _ _; first
              | refine AWp.seq ?_
              | refine AWp.region ?_
              | refine AWp.condT rfl ?_
              | refine AWp.condF rfl ?_
              | refine AWp.skip ?_
              | refine AWp.block ?_
              | refine AWp.exit ?_
              | refine AWp.ret ?_)
          | refine AThen.normal ?_
          | refine AThen.exit ?_
          | refine AThen.ret ?_
          | refine AThen.pan ?_
          | refine AInBlock.pan ?_
          | refine AInBlock.normal ?_
          | refine AInBlock.ret ?_
          | refine AInBlock.same ?_
          | refine AInBlock.other rfl ?_)
      refine AWp.loop ?_
      refine AWpL.upto (fun k s => okFrom b 0 = okFrom b k ∧
        ∃ fr, s = { fr := fr, loc := [], M := M, ds := [] } ∧ Sub fr [(0, .str b), (14, .int .i64 (b.size : Int)), (15, .int .i64 (k : Int))]) b.size ?_ 0 _ (Nat.zero_le _)
        ⟨rfl, _, rfl, rfl, rfl, rfl, trivial⟩
      rintro k s hk ⟨hpre, fr, rfl, hsub⟩ hnext
      refine AWp.mask hsub ?_
      by_cases hlt : k < b.size
      · have hst := okFrom_step b hlt
        repeat' (first
            | (show AOps _ _ _ _ _ _; first
                | refine AOps.nil ?_
                | refine AOps.plain rfl (W.pure rfl rfl rfl ?_)
                | refine AOps.plain rfl (W.cmpT rfl rfl rfl rfl (decide_eq_true (by omega)) ?_)
                | refine AOps.plain rfl (W.byteN rfl rfl rfl rfl rfl hlt ?_)
                | refine AOps.plain rfl (W.cmp rfl rfl rfl rfl (fun _ => ?_) (fun _ => ?_))
                | refine W.leave rfl rfl rfl rfl ?_
                | refine AOps.take rfl rfl (W.pure rfl rfl rfl ?_)
                | refine AOps.take rfl rfl (W.cmpT rfl rfl rfl rfl (decide_eq_true (by omega)) ?_)
                | refine AOps.take rfl rfl (W.byteN rfl rfl rfl rfl rfl hlt ?_)
                | refine AOps.take rfl rfl (W.cmp rfl rfl rfl rfl (fun _ => ?_) (fun _ => ?_))
                | refine AOps.plain rfl (W.boxI rfl rfl rfl rfl rfl rfl ?_)
                | refine AOps.plain rfl (W.build rfl rfl rfl rfl rfl rfl rfl ?_)
                | refine AOps.plain rfl (W.alloc rfl rfl rfl rfl rfl ?_)
                | refine AOps.plain rfl (W.storeL rfl rfl rfl rfl rfl rfl rfl rfl rfl ?_)
                | refine AOps.plain rfl (W.buildSlice rfl rfl rfl rfl rfl rfl rfl rfl rfl ?_))
            | (show AWp _ _ _ _ _; first
                | refine AWp.cutR (id := 7) (fun s => ∃ fr, s = { fr := fr, loc := [], M := M, ds := [] } ∧ Sub fr [(0, .str b), (3, .int .i64 (k : Int)), (4, .int .u8 (byteI b k)), (5, .bool (letterB (byteI b k))), (14, .int .i64 (b.size : Int)), (15, .int .i64 (k : Int))]) ?_ ?_
                | refine AWp.seq ?_
                | refine AWp.region ?_
                | refine AWp.condT rfl ?_
                | refine AWp.condF rfl ?_
                | refine AWp.skip ?_
                | refine AWp.block ?_
                | refine AWp.exit ?_
                | refine AWp.ret ?_)
            | refine AThen.normal ?_
            | refine AThen.exit ?_
            | refine AThen.ret ?_
            | refine AThen.pan ?_
            | refine AInBlock.pan ?_
            | refine AInBlock.normal ?_
            | refine AInBlock.ret ?_
            | refine AInBlock.same ?_
            | refine AInBlock.other rfl ?_)
        rotate_right
        · clear hsub
          rintro _ ⟨fr, rfl, hsub⟩
          refine AWp.mask hsub ?_
          cases hl : letterB (byteI b k) with
          | true =>
            repeat' (first
                | (show AOps _ _ _ _ _ _; first
                    | refine AOps.nil ?_
                    | refine AOps.plain rfl (W.pure rfl rfl rfl ?_)
                    | refine AOps.plain rfl (W.cmp rfl rfl rfl rfl (fun _ => ?_) (fun _ => ?_))
                    | refine W.leave rfl rfl rfl rfl ?_
                    | refine AOps.take rfl rfl (W.pure rfl rfl rfl ?_)
                    | refine AOps.take rfl rfl (W.cmp rfl rfl rfl rfl (fun _ => ?_) (fun _ => ?_))
                    | refine AOps.plain rfl (W.boxI rfl rfl rfl rfl rfl rfl ?_)
                    | refine AOps.plain rfl (W.build rfl rfl rfl rfl rfl rfl rfl ?_)
                    | refine AOps.plain rfl (W.alloc rfl rfl rfl rfl rfl ?_)
                    | refine AOps.plain rfl (W.storeL rfl rfl rfl rfl rfl rfl rfl rfl rfl ?_)
                    | refine AOps.plain rfl (W.buildSlice rfl rfl rfl rfl rfl rfl rfl rfl rfl ?_))
                | (show AWp _ _ _ _ _; first
                    | refine AWp.seq ?_
                    | refine AWp.region ?_
                    | refine AWp.condT rfl ?_
                    | refine AWp.condF rfl ?_
                    | refine AWp.skip ?_
                    | refine AWp.block ?_
                    | refine AWp.exit ?_
                    | refine AWp.ret ?_)
                | refine AThen.normal ?_
                | refine AThen.exit ?_
                | refine AThen.ret ?_
                | refine AThen.pan ?_
                | refine AInBlock.pan ?_
                | refine AInBlock.normal ?_
                | refine AInBlock.ret ?_
                | refine AInBlock.same ?_
                | refine AInBlock.other rfl ?_)
            refine hnext.out _ hlt ⟨?_, _, rfl, rfl, rfl, subInt (wrapAdd (by omega) (by omega)), trivial⟩
            rw [hpre, hst]; simp [okAt, hl]
          | false =>
            by_cases hk0 : k = 0
            · subst hk0
              repeat' (first
                  | (show AOps _ _ _ _ _ _; first
                      | refine AOps.nil ?_
                      | refine AOps.plain rfl (W.pure rfl rfl rfl ?_)
                      | refine AOps.plain rfl (W.cmp rfl rfl rfl rfl (fun _ => ?_) (fun _ => ?_))
                      | refine W.leave rfl rfl rfl rfl ?_
                      | refine AOps.take rfl rfl (W.pure rfl rfl rfl ?_)
                      | refine AOps.take rfl rfl (W.cmp rfl rfl rfl rfl (fun _ => ?_) (fun _ => ?_))
                      | refine AOps.plain rfl (W.boxI rfl rfl rfl rfl rfl rfl ?_)
                      | refine AOps.plain rfl (W.build rfl rfl rfl rfl rfl rfl rfl ?_)
                      | refine AOps.plain rfl (W.alloc rfl rfl rfl rfl rfl ?_)
                      | refine AOps.plain rfl (W.storeL rfl rfl rfl rfl rfl rfl rfl rfl rfl ?_)
                      | refine AOps.plain rfl (W.buildSlice rfl rfl rfl rfl rfl rfl rfl rfl rfl ?_))
                  | (show AWp _ _ _ _ _; first
                      | refine AWp.seq ?_
                      | refine AWp.region ?_
                      | refine AWp.condT rfl ?_
                      | refine AWp.condF rfl ?_
                      | refine AWp.skip ?_
                      | refine AWp.block ?_
                      | refine AWp.exit ?_
                      | refine AWp.ret ?_)
                  | refine AThen.normal ?_
                  | refine AThen.exit ?_
                  | refine AThen.ret ?_
                  | refine AThen.pan ?_
                  | refine AInBlock.pan ?_
                  | refine AInBlock.normal ?_
                  | refine AInBlock.ret ?_
                  | refine AInBlock.same ?_
                  | refine AInBlock.other rfl ?_)
              refine bodyQ.one rfl rfl rfl ⟨?_, rfl⟩
              rw [hres, hpre, hst]; simp [okAt, hl]
            · have hkb : ((k : Int) == 0) = false := by rw [beq_eq_false_iff_ne]; omega
              repeat' (first
                  | (show AOps _ _ _ _ _ _; first
                      | refine AOps.nil ?_
                      | refine AOps.plain rfl (W.pure rfl rfl rfl ?_)
                      | refine AOps.plain rfl (W.cmpF rfl rfl rfl rfl (hkb) ?_)
                      | refine AOps.plain rfl (W.cmp rfl rfl rfl rfl (fun _ => ?_) (fun _ => ?_))
                      | refine W.leave rfl rfl rfl rfl ?_
                      | refine AOps.take rfl rfl (W.pure rfl rfl rfl ?_)
                      | refine AOps.take rfl rfl (W.cmpF rfl rfl rfl rfl (hkb) ?_)
                      | refine AOps.take rfl rfl (W.cmp rfl rfl rfl rfl (fun _ => ?_) (fun _ => ?_))
                      | refine AOps.plain rfl (W.boxI rfl rfl rfl rfl rfl rfl ?_)
                      | refine AOps.plain rfl (W.build rfl rfl rfl rfl rfl rfl rfl ?_)
                      | refine AOps.plain rfl (W.alloc rfl rfl rfl rfl rfl ?_)
                      | refine AOps.plain rfl (W.storeL rfl rfl rfl rfl rfl rfl rfl rfl rfl ?_)
                      | refine AOps.plain rfl (W.buildSlice rfl rfl rfl rfl rfl rfl rfl rfl rfl ?_))
                  | (show AWp _ _ _ _ _; first
                      | refine AWp.seq ?_
                      | refine AWp.region ?_
                      | refine AWp.condT rfl ?_
                      | refine AWp.condF rfl ?_
                      | refine AWp.skip ?_
                      | refine AWp.block ?_
                      | refine AWp.exit ?_
                      | refine AWp.ret ?_)
                  | refine AThen.normal ?_
                  | refine AThen.exit ?_
                  | refine AThen.ret ?_
                  | refine AThen.pan ?_
                  | refine AInBlock.pan ?_
                  | refine AInBlock.normal ?_
                  | refine AInBlock.ret ?_
                  | refine AInBlock.same ?_
                  | refine AInBlock.other rfl ?_)
              · refine bodyQ.one rfl rfl rfl ⟨?_, rfl⟩
                rw [hres, hpre, hst]; simp [okAt, hl, hk0, digitB, *]
              · refine bodyQ.one rfl rfl rfl ⟨?_, rfl⟩
                rw [hres, hpre, hst]; simp [okAt, hl, hk0, digitB, *]
              · refine hnext.out _ hlt ⟨?_, _, rfl, rfl, rfl, subInt (wrapAdd (by omega) (by omega)), trivial⟩
                rw [hpre, hst]; simp [okAt, hl, hk0, digitB, *]
        all_goals exact ⟨_, rfl, rfl, rfl, rfl, subBool (by simp [letterB, *]), rfl, rfl, trivial⟩
      · repeat' (first
          | (show AOps _ _ _ _ _ _; first
              | refine AOps.nil ?_
              | refine AOps.plain rfl (W.pure rfl rfl rfl ?_)
              | refine AOps.plain rfl (W.cmpF rfl rfl rfl rfl (decide_eq_false (by omega)) ?_)
              | refine AOps.plain rfl (W.cmp rfl rfl rfl rfl (fun _ => ?_) (fun _ => ?_))
              | refine W.leave rfl rfl rfl rfl ?_
              | refine AOps.take rfl rfl (W.pure rfl rfl rfl ?_)
              | refine AOps.take rfl rfl (W.cmpF rfl rfl rfl rfl (decide_eq_false (by omega)) ?_)
              | refine AOps.take rfl rfl (W.cmp rfl rfl rfl rfl (fun _ => ?_) (fun _ => ?_))
              | refine AOps.plain rfl (W.boxI rfl rfl rfl rfl rfl rfl ?_)
              | refine AOps.plain rfl (W.build rfl rfl rfl rfl rfl rfl rfl ?_)
              | refine AOps.plain rfl (W.alloc rfl rfl rfl rfl rfl ?_)
              | refine AOps.plain rfl (W.storeL rfl rfl rfl rfl rfl rfl rfl rfl rfl ?_)
              | refine AOps.plain rfl (W.buildSlice rfl rfl rfl rfl rfl rfl rfl rfl rfl ?_))
          | (show AWp _ _ _ _ _; first
              | refine AWp.seq ?_
              | refine AWp.region ?_
              | refine AWp.condT rfl ?_
              | refine AWp.condF rfl ?_
              | refine AWp.skip ?_
              | refine AWp.block ?_
              | refine AWp.exit ?_
              | refine AWp.ret ?_)
          | refine AThen.normal ?_
          | refine AThen.exit ?_
          | refine AThen.ret ?_
          | refine AThen.pan ?_
          | refine AInBlock.pan ?_
          | refine AInBlock.normal ?_
          | refine AInBlock.ret ?_
          | refine AInBlock.same ?_
          | refine AInBlock.other rfl ?_)
        refine bodyQ.one rfl rfl rfl ⟨?_, rfl⟩
        rw [hres, hpre, okFrom_end b hlt]

end Go.Proofs.Ytceocfancfjdjaa
