/- (D) The small tests of the given reference: names, keys, signs, built-in calls. No condition. -/
import Derived.Test.YtceocfancfjdjaaFnF
import Derived.Test.YtceocfancfjdjaaDraw3
namespace Go.Proofs.Ytceocfancfjdjaa
open Go Go.RowKit
attribute [local irreducible] ACalls AOps AOp AWp AWpL AThen AInBlock bodyQ seq DOps

theorem size_zero {b : ByteArray} : ((b.size : Int) == 0) = seq b nothing := by
  rw [Bool.eq_iff_iff, seq_iff, beq_iff_eq]
  constructor
  · intro h
    have h0 : b.size = 0 := by omega
    exact ByteArray.ext (Array.eq_empty_of_size_eq_zero h0)
  · rintro rfl; rfl

set_option maxHeartbeats 4000000 in
theorem refIsName_ok (b : ByteArray) (hb : b.size < 281474976710656) : Ans 38 [.str b] (.bool (isNameB b)) := by
  intro M
  refine ACalls.of_body Try.func38 rfl rfl rfl ?_
  simp only [Try.ntmps38, frOf]
  cases h1 : ((b.size : Int) == 0) with
  | true =>
    repeat' (first
        | (show DOps _ _ _ _ _ _ _ _ _ _ _; first
            | refine D.end ?_
            | refine D.val (.inl rfl) rfl rfl rfl ?_
            | refine D.leave rfl rfl rfl rfl ?_
            | refine D.val (Wants.take rfl rfl) rfl rfl rfl ?_
            | refine (D.cmpT rfl (.inl rfl) rfl rfl rfl (h1) ?_)
            | refine D.cmp rfl (.inl rfl) rfl rfl rfl (fun _ => ?_) (fun _ => ?_)
            | refine D.valO (.inl rfl) rfl rfl rfl rfl ?_
            | refine D.build (.inl rfl) rfl rfl rfl rfl rfl rfl rfl ?_
            | refine D.buildSlice (.inl rfl) rfl rfl rfl rfl rfl rfl rfl rfl rfl ?_
            | refine (D.cmpT rfl (Wants.take rfl rfl) rfl rfl rfl (h1) ?_)
            | refine D.cmp rfl (Wants.take rfl rfl) rfl rfl rfl (fun _ => ?_) (fun _ => ?_)
            | refine D.valO (Wants.take rfl rfl) rfl rfl rfl rfl ?_
            | refine D.build (Wants.take rfl rfl) rfl rfl rfl rfl rfl rfl rfl ?_
            | refine D.buildSlice (Wants.take rfl rfl) rfl rfl rfl rfl rfl rfl rfl rfl rfl ?_)
        | (show AOps _ _ _ _ _ _; first
            | refine AOps.nil ?_
            | refine AOps.plain rfl (W.pure rfl rfl rfl ?_)
            | refine AOps.plain rfl (W.cmpT rfl rfl rfl rfl (h1) ?_)
            | refine AOps.plain rfl (W.cmp rfl rfl rfl rfl (fun _ => ?_) (fun _ => ?_))
            | refine W.leave rfl rfl rfl rfl ?_
            | refine AOps.take rfl rfl (W.pure rfl rfl rfl ?_)
            | refine AOps.take rfl rfl (W.cmpT rfl rfl rfl rfl (h1) ?_)
            | refine AOps.take rfl rfl (W.cmp rfl rfl rfl rfl (fun _ => ?_) (fun _ => ?_))
            | refine AOps.plain rfl (W.boxI rfl rfl rfl rfl rfl rfl ?_)
            | refine AOps.plain rfl (W.build rfl rfl rfl rfl rfl rfl rfl ?_)
            | refine AOps.plain rfl (W.alloc rfl rfl rfl rfl rfl ?_)
            | refine AOps.plain rfl (W.storeL rfl rfl rfl rfl rfl rfl rfl rfl rfl ?_)
            | refine AOps.plain rfl (W.buildSlice rfl rfl rfl rfl rfl rfl rfl rfl rfl ?_))
        | (show AWp _ _ _ _ _; first
            | refine AWp.seq ?_
            | refine AWp.region ?_
            | refine AWp.condT rfl ?_
            | refine AWp.condF rfl ?_
            | refine AWp.skip ?_
            | refine AWp.block ?_
            | refine AWp.exit ?_
            | refine AWp.ret ?_
            | refine AWp.draw0 (by kernel_rfl) ?_)
        | refine AThen.normal ?_
        | refine AThen.exit ?_
        | refine AThen.ret ?_
        | refine AThen.pan ?_
        | refine AInBlock.pan ?_
        | refine AInBlock.normal ?_
        | refine AInBlock.ret ?_
        | refine AInBlock.same ?_
        | refine AInBlock.other rfl ?_)
    have h1' := h1
    rw [size_zero] at h1'
    exact bodyQ.one rfl rfl rfl ⟨by simp [isNameB, h1'], rfl⟩
  | false =>
    have h1' := h1
    rw [size_zero] at h1'
    have hpos : 0 < b.size := by
      have : ¬ ((b.size : Int) = 0) := by simpa using h1
      omega
    cases h2 : decide ((b.size : Int) > 12) with
    | true =>
      repeat' (first
          | (show DOps _ _ _ _ _ _ _ _ _ _ _; first
              | refine D.end ?_
              | refine D.val (.inl rfl) rfl rfl rfl ?_
              | refine D.leave rfl rfl rfl rfl ?_
              | refine D.val (Wants.take rfl rfl) rfl rfl rfl ?_
              | refine (D.cmpF rfl (.inl rfl) rfl rfl rfl (h1) ?_)
              | refine (D.cmpT rfl (.inl rfl) rfl rfl rfl (h2) ?_)
              | refine D.cmp rfl (.inl rfl) rfl rfl rfl (fun _ => ?_) (fun _ => ?_)
              | refine D.valO (.inl rfl) rfl rfl rfl rfl ?_
              | refine D.build (.inl rfl) rfl rfl rfl rfl rfl rfl rfl ?_
              | refine D.buildSlice (.inl rfl) rfl rfl rfl rfl rfl rfl rfl rfl rfl ?_
              | refine (D.cmpF rfl (Wants.take rfl rfl) rfl rfl rfl (h1) ?_)
              | refine (D.cmpT rfl (Wants.take rfl rfl) rfl rfl rfl (h2) ?_)
              | refine D.cmp rfl (Wants.take rfl rfl) rfl rfl rfl (fun _ => ?_) (fun _ => ?_)
              | refine D.valO (Wants.take rfl rfl) rfl rfl rfl rfl ?_
              | refine D.build (Wants.take rfl rfl) rfl rfl rfl rfl rfl rfl rfl ?_
              | refine D.buildSlice (Wants.take rfl rfl) rfl rfl rfl rfl rfl rfl rfl rfl rfl ?_)
          | (show AOps _ _ _ _ _ _; first
              | refine AOps.nil ?_
              | refine AOps.plain rfl (W.pure rfl rfl rfl ?_)
              | refine AOps.plain rfl (W.cmpF rfl rfl rfl rfl (h1) ?_)
              | refine AOps.plain rfl (W.cmpT rfl rfl rfl rfl (h2) ?_)
              | refine AOps.plain rfl (W.cmp rfl rfl rfl rfl (fun _ => ?_) (fun _ => ?_))
              | refine W.leave rfl rfl rfl rfl ?_
              | refine AOps.take rfl rfl (W.pure rfl rfl rfl ?_)
              | refine AOps.take rfl rfl (W.cmpF rfl rfl rfl rfl (h1) ?_)
              | refine AOps.take rfl rfl (W.cmpT rfl rfl rfl rfl (h2) ?_)
              | refine AOps.take rfl rfl (W.cmp rfl rfl rfl rfl (fun _ => ?_) (fun _ => ?_))
              | refine AOps.plain rfl (W.boxI rfl rfl rfl rfl rfl rfl ?_)
              | refine AOps.plain rfl (W.build rfl rfl rfl rfl rfl rfl rfl ?_)
              | refine AOps.plain rfl (W.alloc rfl rfl rfl rfl rfl ?_)
              | refine AOps.plain rfl (W.storeL rfl rfl rfl rfl rfl rfl rfl rfl rfl ?_)
              | refine AOps.plain rfl (W.buildSlice rfl rfl rfl rfl rfl rfl rfl rfl rfl ?_))
          | (show AWp _ _ _ _ _; first
              | refine AWp.seq ?_
              | refine AWp.region ?_
              | refine AWp.condT rfl ?_
              | refine AWp.condF rfl ?_
              | refine AWp.skip ?_
              | refine AWp.block ?_
              | refine AWp.exit ?_
              | refine AWp.ret ?_
              | refine AWp.draw0 (by kernel_rfl) ?_)
          | refine AThen.normal ?_
          | refine AThen.exit ?_
          | refine AThen.ret ?_
          | refine AThen.pan ?_
          | refine AInBlock.pan ?_
          | refine AInBlock.normal ?_
          | refine AInBlock.ret ?_
          | refine AInBlock.same ?_
          | refine AInBlock.other rfl ?_)
      exact bodyQ.one rfl rfl rfl ⟨by simp [isNameB, h1', h2], rfl⟩
    | false =>
      have hres : isNameB b = okFrom b 0 := by simp [isNameB, h1', h2]
      have hst0 := okFrom_step b hpos
      cases hl0 : letterB (byteI b 0) with
      | false =>
        repeat' (first
            | (show DOps _ _ _ _ _ _ _ _ _ _ _; first
                | refine D.end ?_
                | refine D.val (.inl rfl) rfl rfl rfl ?_
                | refine D.leave rfl rfl rfl rfl ?_
                | refine D.val (Wants.take rfl rfl) rfl rfl rfl ?_
                | refine (D.cmpF rfl (.inl rfl) rfl rfl rfl (h1) ?_)
                | refine (D.cmpF rfl (.inl rfl) rfl rfl rfl (h2) ?_)
                | refine D.cmp rfl (.inl rfl) rfl rfl rfl (fun _ => ?_) (fun _ => ?_)
                | refine D.valO (.inl rfl) rfl rfl rfl rfl ?_
                | refine D.build (.inl rfl) rfl rfl rfl rfl rfl rfl rfl ?_
                | refine D.buildSlice (.inl rfl) rfl rfl rfl rfl rfl rfl rfl rfl rfl ?_
                | refine (D.cmpF rfl (Wants.take rfl rfl) rfl rfl rfl (h1) ?_)
                | refine (D.cmpF rfl (Wants.take rfl rfl) rfl rfl rfl (h2) ?_)
                | refine D.cmp rfl (Wants.take rfl rfl) rfl rfl rfl (fun _ => ?_) (fun _ => ?_)
                | refine D.valO (Wants.take rfl rfl) rfl rfl rfl rfl ?_
                | refine D.build (Wants.take rfl rfl) rfl rfl rfl rfl rfl rfl rfl ?_
                | refine D.buildSlice (Wants.take rfl rfl) rfl rfl rfl rfl rfl rfl rfl rfl rfl ?_)
            | (show AOps _ _ _ _ _ _; first
                | refine AOps.nil ?_
                | refine AOps.plain rfl (W.pure rfl rfl rfl ?_)
                | refine AOps.plain rfl (W.cmpF rfl rfl rfl rfl (h1) ?_)
                | refine AOps.plain rfl (W.cmpF rfl rfl rfl rfl (h2) ?_)
                | refine AOps.plain rfl (W.byteN (j := 0) rfl rfl rfl rfl rfl hpos ?_)
                | refine AOps.plain rfl (W.callV rfl rfl rfl rfl rfl (hl0 ▸ letter_ok (byteI b 0) M) rfl rfl rfl ?_)
                | refine AOps.plain rfl (W.cmp rfl rfl rfl rfl (fun _ => ?_) (fun _ => ?_))
                | refine W.leave rfl rfl rfl rfl ?_
                | refine AOps.take rfl rfl (W.pure rfl rfl rfl ?_)
                | refine AOps.take rfl rfl (W.cmpF rfl rfl rfl rfl (h1) ?_)
                | refine AOps.take rfl rfl (W.cmpF rfl rfl rfl rfl (h2) ?_)
                | refine AOps.take rfl rfl (W.byteN (j := 0) rfl rfl rfl rfl rfl hpos ?_)
                | refine AOps.take rfl rfl (W.callV rfl rfl rfl rfl rfl (hl0 ▸ letter_ok (byteI b 0) M) rfl rfl rfl ?_)
                | refine AOps.take rfl rfl (W.cmp rfl rfl rfl rfl (fun _ => ?_) (fun _ => ?_))
                | refine AOps.plain rfl (W.boxI rfl rfl rfl rfl rfl rfl ?_)
                | refine AOps.plain rfl (W.build rfl rfl rfl rfl rfl rfl rfl ?_)
                | refine AOps.plain rfl (W.alloc rfl rfl rfl rfl rfl ?_)
                | refine AOps.plain rfl (W.storeL rfl rfl rfl rfl rfl rfl rfl rfl rfl ?_)
                | refine AOps.plain rfl (W.buildSlice rfl rfl rfl rfl rfl rfl rfl rfl rfl ?_))
            | (show AWp _ _ _ _ _; first
                | refine AWp.seq ?_
                | refine AWp.region ?_
                | refine AWp.condT rfl ?_
                | refine AWp.condF rfl ?_
                | refine AWp.skip ?_
                | refine AWp.block ?_
                | refine AWp.exit ?_
                | refine AWp.ret ?_
                | refine AWp.draw0 (by kernel_rfl) ?_)
            | refine AThen.normal ?_
            | refine AThen.exit ?_
            | refine AThen.ret ?_
            | refine AThen.pan ?_
            | refine AInBlock.pan ?_
            | refine AInBlock.normal ?_
            | refine AInBlock.ret ?_
            | refine AInBlock.same ?_
            | refine AInBlock.other rfl ?_)
        refine bodyQ.one rfl rfl rfl ⟨?_, rfl⟩
        rw [hres, hst0]; simp [okAt, hl0]
      | true =>
        repeat' (first
            | (show DOps _ _ _ _ _ _ _ _ _ _ _; first
                | refine D.end ?_
                | refine D.val (.inl rfl) rfl rfl rfl ?_
                | refine D.leave rfl rfl rfl rfl ?_
                | refine D.val (Wants.take rfl rfl) rfl rfl rfl ?_
                | refine (D.cmpF rfl (.inl rfl) rfl rfl rfl (h1) ?_)
                | refine (D.cmpF rfl (.inl rfl) rfl rfl rfl (h2) ?_)
                | refine D.cmp rfl (.inl rfl) rfl rfl rfl (fun _ => ?_) (fun _ => ?_)
                | refine D.valO (.inl rfl) rfl rfl rfl rfl ?_
                | refine D.build (.inl rfl) rfl rfl rfl rfl rfl rfl rfl ?_
                | refine D.buildSlice (.inl rfl) rfl rfl rfl rfl rfl rfl rfl rfl rfl ?_
                | refine (D.cmpF rfl (Wants.take rfl rfl) rfl rfl rfl (h1) ?_)
                | refine (D.cmpF rfl (Wants.take rfl rfl) rfl rfl rfl (h2) ?_)
                | refine D.cmp rfl (Wants.take rfl rfl) rfl rfl rfl (fun _ => ?_) (fun _ => ?_)
                | refine D.valO (Wants.take rfl rfl) rfl rfl rfl rfl ?_
                | refine D.build (Wants.take rfl rfl) rfl rfl rfl rfl rfl rfl rfl ?_
                | refine D.buildSlice (Wants.take rfl rfl) rfl rfl rfl rfl rfl rfl rfl rfl rfl ?_)
            | (show AOps _ _ _ _ _ _; first
                | refine AOps.nil ?_
                | refine AOps.plain rfl (W.pure rfl rfl rfl ?_)
                | refine AOps.plain rfl (W.cmpF rfl rfl rfl rfl (h1) ?_)
                | refine AOps.plain rfl (W.cmpF rfl rfl rfl rfl (h2) ?_)
                | refine AOps.plain rfl (W.byteN (j := 0) rfl rfl rfl rfl rfl hpos ?_)
                | refine AOps.plain rfl (W.callV rfl rfl rfl rfl rfl (hl0 ▸ letter_ok (byteI b 0) M) rfl rfl rfl ?_)
                | refine AOps.plain rfl (W.cmp rfl rfl rfl rfl (fun _ => ?_) (fun _ => ?_))
                | refine W.leave rfl rfl rfl rfl ?_
                | refine AOps.take rfl rfl (W.pure rfl rfl rfl ?_)
                | refine AOps.take rfl rfl (W.cmpF rfl rfl rfl rfl (h1) ?_)
                | refine AOps.take rfl rfl (W.cmpF rfl rfl rfl rfl (h2) ?_)
                | refine AOps.take rfl rfl (W.byteN (j := 0) rfl rfl rfl rfl rfl hpos ?_)
                | refine AOps.take rfl rfl (W.callV rfl rfl rfl rfl rfl (hl0 ▸ letter_ok (byteI b 0) M) rfl rfl rfl ?_)
                | refine AOps.take rfl rfl (W.cmp rfl rfl rfl rfl (fun _ => ?_) (fun _ => ?_))
                | refine AOps.plain rfl (W.boxI rfl rfl rfl rfl rfl rfl ?_)
                | refine AOps.plain rfl (W.build rfl rfl rfl rfl rfl rfl rfl ?_)
                | refine AOps.plain rfl (W.alloc rfl rfl rfl rfl rfl ?_)
                | refine AOps.plain rfl (W.storeL rfl rfl rfl rfl rfl rfl rfl rfl rfl ?_)
                | refine AOps.plain rfl (W.buildSlice rfl rfl rfl rfl rfl rfl rfl rfl rfl ?_))
            | (show AWp _ _ _ _ _; first
                | refine AWp.seq ?_
                | refine AWp.region ?_
                | refine AWp.condT rfl ?_
                | refine AWp.condF rfl ?_
                | refine AWp.skip ?_
                | refine AWp.block ?_
                | refine AWp.exit ?_
                | refine AWp.ret ?_
                | refine AWp.draw0 (by kernel_rfl) ?_)
            | refine AThen.normal ?_
            | refine AThen.exit ?_
            | refine AThen.ret ?_
            | refine AThen.pan ?_
            | refine AInBlock.pan ?_
            | refine AInBlock.normal ?_
            | refine AInBlock.ret ?_
            | refine AInBlock.same ?_
            | refine AInBlock.other rfl ?_)
        refine AWp.loop ?_
        refine AWpL.upto (fun k s => 1 ≤ k ∧ okFrom b 0 = okFrom b k ∧
          ∃ fr, s = { fr := fr, loc := [], M := M, ds := [] } ∧ Sub fr [(0, .str b), (3, .int .i64 (k : Int))]) b.size ?_ 1 _ (by omega)
          ⟨Nat.le_refl _, by rw [hst0]; simp [okAt, hl0], _, rfl, rfl, rfl, trivial⟩
        rintro k s hk ⟨hk1, hpre, fr, rfl, hsub⟩ hnext
        refine AWp.mask hsub ?_
        clear hsub
        by_cases hlt : k < b.size
        · have hst := okFrom_step b hlt
          have hk0 : ¬ k = 0 := by omega
          cases hl : letterB (byteI b k) with
          | true =>
            repeat' (first
                | (show DOps _ _ _ _ _ _ _ _ _ _ _; first
                    | refine D.end ?_
                    | refine D.val (.inl rfl) rfl rfl rfl ?_
                    | refine D.leave rfl rfl rfl rfl ?_
                    | refine D.val (Wants.take rfl rfl) rfl rfl rfl ?_
                    | refine (D.cmpT rfl (.inl rfl) rfl rfl rfl (decide_eq_true (by omega)) ?_)
                    | refine D.cmp rfl (.inl rfl) rfl rfl rfl (fun _ => ?_) (fun _ => ?_)
                    | refine D.valO (.inl rfl) rfl rfl rfl rfl ?_
                    | refine D.build (.inl rfl) rfl rfl rfl rfl rfl rfl rfl ?_
                    | refine D.buildSlice (.inl rfl) rfl rfl rfl rfl rfl rfl rfl rfl rfl ?_
                    | refine (D.cmpT rfl (Wants.take rfl rfl) rfl rfl rfl (decide_eq_true (by omega)) ?_)
                    | refine D.cmp rfl (Wants.take rfl rfl) rfl rfl rfl (fun _ => ?_) (fun _ => ?_)
                    | refine D.valO (Wants.take rfl rfl) rfl rfl rfl rfl ?_
                    | refine D.build (Wants.take rfl rfl) rfl rfl rfl rfl rfl rfl rfl ?_
                    | refine D.buildSlice (Wants.take rfl rfl) rfl rfl rfl rfl rfl rfl rfl rfl rfl ?_)
                | (show AOps _ _ _ _ _ _; first
                    | refine AOps.nil ?_
                    | refine AOps.plain rfl (W.pure rfl rfl rfl ?_)
                    | refine AOps.plain rfl (W.cmpT rfl rfl rfl rfl (decide_eq_true (by omega)) ?_)
                    | refine AOps.plain rfl (W.byteN rfl rfl rfl rfl rfl hlt ?_)
                    | refine AOps.plain rfl (W.callV rfl rfl rfl rfl rfl (hl ▸ letter_ok (byteI b k) M) rfl rfl rfl ?_)
                    | refine AOps.plain rfl (W.cmp rfl rfl rfl rfl (fun _ => ?_) (fun _ => ?_))
                    | refine W.leave rfl rfl rfl rfl ?_
                    | refine AOps.take rfl rfl (W.pure rfl rfl rfl ?_)
                    | refine AOps.take rfl rfl (W.cmpT rfl rfl rfl rfl (decide_eq_true (by omega)) ?_)
                    | refine AOps.take rfl rfl (W.byteN rfl rfl rfl rfl rfl hlt ?_)
                    | refine AOps.take rfl rfl (W.callV rfl rfl rfl rfl rfl (hl ▸ letter_ok (byteI b k) M) rfl rfl rfl ?_)
                    | refine AOps.take rfl rfl (W.cmp rfl rfl rfl rfl (fun _ => ?_) (fun _ => ?_))
                    | refine AOps.plain rfl (W.boxI rfl rfl rfl rfl rfl rfl ?_)
                    | refine AOps.plain rfl (W.build rfl rfl rfl rfl rfl rfl rfl ?_)
                    | refine AOps.plain rfl (W.alloc rfl rfl rfl rfl rfl ?_)
                    | refine AOps.plain rfl (W.storeL rfl rfl rfl rfl rfl rfl rfl rfl rfl ?_)
                    | refine AOps.plain rfl (W.buildSlice rfl rfl rfl rfl rfl rfl rfl rfl rfl ?_))
                | (show AWp _ _ _ _ _; first
                    | refine AWp.seq ?_
                    | refine AWp.region ?_
                    | refine AWp.condT rfl ?_
                    | refine AWp.condF rfl ?_
                    | refine AWp.skip ?_
                    | refine AWp.block ?_
                    | refine AWp.exit ?_
                    | refine AWp.ret ?_
                    | refine AWp.draw0 (by kernel_rfl) ?_)
                | refine AThen.normal ?_
                | refine AThen.exit ?_
                | refine AThen.ret ?_
                | refine AThen.pan ?_
                | refine AInBlock.pan ?_
                | refine AInBlock.normal ?_
                | refine AInBlock.ret ?_
                | refine AInBlock.same ?_
                | refine AInBlock.other rfl ?_)
            refine hnext.out _ hlt ⟨by omega, ?_, _, rfl, rfl, subInt (wrapAdd (by omega) (by omega)), trivial⟩
            rw [hpre, hst]; simp [okAt, hl]
          | false =>
            repeat' (first
                | (show DOps _ _ _ _ _ _ _ _ _ _ _; first
                    | refine D.end ?_
                    | refine D.val (.inl rfl) rfl rfl rfl ?_
                    | refine D.leave rfl rfl rfl rfl ?_
                    | refine D.val (Wants.take rfl rfl) rfl rfl rfl ?_
                    | refine (D.cmpT rfl (.inl rfl) rfl rfl rfl (decide_eq_true (by omega)) ?_)
                    | refine D.cmp rfl (.inl rfl) rfl rfl rfl (fun _ => ?_) (fun _ => ?_)
                    | refine D.valO (.inl rfl) rfl rfl rfl rfl ?_
                    | refine D.build (.inl rfl) rfl rfl rfl rfl rfl rfl rfl ?_
                    | refine D.buildSlice (.inl rfl) rfl rfl rfl rfl rfl rfl rfl rfl rfl ?_
                    | refine (D.cmpT rfl (Wants.take rfl rfl) rfl rfl rfl (decide_eq_true (by omega)) ?_)
                    | refine D.cmp rfl (Wants.take rfl rfl) rfl rfl rfl (fun _ => ?_) (fun _ => ?_)
                    | refine D.valO (Wants.take rfl rfl) rfl rfl rfl rfl ?_
                    | refine D.build (Wants.take rfl rfl) rfl rfl rfl rfl rfl rfl rfl ?_
                    | refine D.buildSlice (Wants.take rfl rfl) rfl rfl rfl rfl rfl rfl rfl rfl rfl ?_)
                | (show AOps _ _ _ _ _ _; first
                    | refine AOps.nil ?_
                    | refine AOps.plain rfl (W.pure rfl rfl rfl ?_)
                    | refine AOps.plain rfl (W.cmpT rfl rfl rfl rfl (decide_eq_true (by omega)) ?_)
                    | refine AOps.plain rfl (W.byteN rfl rfl rfl rfl rfl hlt ?_)
                    | refine AOps.plain rfl (W.callV rfl rfl rfl rfl rfl (hl ▸ letter_ok (byteI b k) M) rfl rfl rfl ?_)
                    | refine AOps.plain rfl (W.cmp rfl rfl rfl rfl (fun _ => ?_) (fun _ => ?_))
                    | refine W.leave rfl rfl rfl rfl ?_
                    | refine AOps.take rfl rfl (W.pure rfl rfl rfl ?_)
                    | refine AOps.take rfl rfl (W.cmpT rfl rfl rfl rfl (decide_eq_true (by omega)) ?_)
                    | refine AOps.take rfl rfl (W.byteN rfl rfl rfl rfl rfl hlt ?_)
                    | refine AOps.take rfl rfl (W.callV rfl rfl rfl rfl rfl (hl ▸ letter_ok (byteI b k) M) rfl rfl rfl ?_)
                    | refine AOps.take rfl rfl (W.cmp rfl rfl rfl rfl (fun _ => ?_) (fun _ => ?_))
                    | refine AOps.plain rfl (W.boxI rfl rfl rfl rfl rfl rfl ?_)
                    | refine AOps.plain rfl (W.build rfl rfl rfl rfl rfl rfl rfl ?_)
                    | refine AOps.plain rfl (W.alloc rfl rfl rfl rfl rfl ?_)
                    | refine AOps.plain rfl (W.storeL rfl rfl rfl rfl rfl rfl rfl rfl rfl ?_)
                    | refine AOps.plain rfl (W.buildSlice rfl rfl rfl rfl rfl rfl rfl rfl rfl ?_))
                | (show AWp _ _ _ _ _; first
                    | refine AWp.seq ?_
                    | refine AWp.region ?_
                    | refine AWp.condT rfl ?_
                    | refine AWp.condF rfl ?_
                    | refine AWp.skip ?_
                    | refine AWp.block ?_
                    | refine AWp.exit ?_
                    | refine AWp.ret ?_
                    | refine AWp.draw0 (by kernel_rfl) ?_)
                | refine AThen.normal ?_
                | refine AThen.exit ?_
                | refine AThen.ret ?_
                | refine AThen.pan ?_
                | refine AInBlock.pan ?_
                | refine AInBlock.normal ?_
                | refine AInBlock.ret ?_
                | refine AInBlock.same ?_
                | refine AInBlock.other rfl ?_)
            · refine bodyQ.one rfl rfl rfl ⟨?_, rfl⟩
              rw [hres, hpre, hst]; simp [okAt, hl, hk0, digitB, *]
            · refine bodyQ.one rfl rfl rfl ⟨?_, rfl⟩
              rw [hres, hpre, hst]; simp [okAt, hl, hk0, digitB, *]
            · refine hnext.out _ hlt ⟨by omega, ?_, _, rfl, rfl, subInt (wrapAdd (by omega) (by omega)), trivial⟩
              rw [hpre, hst]; simp [okAt, hl, hk0, digitB, *]
        · repeat' (first
            | (show DOps _ _ _ _ _ _ _ _ _ _ _; first
                | refine D.end ?_
                | refine D.val (.inl rfl) rfl rfl rfl ?_
                | refine D.leave rfl rfl rfl rfl ?_
                | refine D.val (Wants.take rfl rfl) rfl rfl rfl ?_
                | refine (D.cmpF rfl (.inl rfl) rfl rfl rfl (decide_eq_false (by omega)) ?_)
                | refine D.cmp rfl (.inl rfl) rfl rfl rfl (fun _ => ?_) (fun _ => ?_)
                | refine D.valO (.inl rfl) rfl rfl rfl rfl ?_
                | refine D.build (.inl rfl) rfl rfl rfl rfl rfl rfl rfl ?_
                | refine D.buildSlice (.inl rfl) rfl rfl rfl rfl rfl rfl rfl rfl rfl ?_
                | refine (D.cmpF rfl (Wants.take rfl rfl) rfl rfl rfl (decide_eq_false (by omega)) ?_)
                | refine D.cmp rfl (Wants.take rfl rfl) rfl rfl rfl (fun _ => ?_) (fun _ => ?_)
                | refine D.valO (Wants.take rfl rfl) rfl rfl rfl rfl ?_
                | refine D.build (Wants.take rfl rfl) rfl rfl rfl rfl rfl rfl rfl ?_
                | refine D.buildSlice (Wants.take rfl rfl) rfl rfl rfl rfl rfl rfl rfl rfl rfl ?_)
            | (show AOps _ _ _ _ _ _; first
                | refine AOps.nil ?_
                | refine AOps.plain rfl (W.pure rfl rfl rfl ?_)
                | refine AOps.plain rfl (W.cmpF rfl rfl rfl rfl (decide_eq_false (by omega)) ?_)
                | refine AOps.plain rfl (W.cmp rfl rfl rfl rfl (fun _ => ?_) (fun _ => ?_))
                | refine W.leave rfl rfl rfl rfl ?_
                | refine AOps.take rfl rfl (W.pure rfl rfl rfl ?_)
                | refine AOps.take rfl rfl (W.cmpF rfl rfl rfl rfl (decide_eq_false (by omega)) ?_)
                | refine AOps.take rfl rfl (W.cmp rfl rfl rfl rfl (fun _ => ?_) (fun _ => ?_))
                | refine AOps.plain rfl (W.boxI rfl rfl rfl rfl rfl rfl ?_)
                | refine AOps.plain rfl (W.build rfl rfl rfl rfl rfl rfl rfl ?_)
                | refine AOps.plain rfl (W.alloc rfl rfl rfl rfl rfl ?_)
                | refine AOps.plain rfl (W.storeL rfl rfl rfl rfl rfl rfl rfl rfl rfl ?_)
                | refine AOps.plain rfl (W.buildSlice rfl rfl rfl rfl rfl rfl rfl rfl rfl ?_))
            | (show AWp _ _ _ _ _; first
                | refine AWp.seq ?_
                | refine AWp.region ?_
                | refine AWp.condT rfl ?_
                | refine AWp.condF rfl ?_
                | refine AWp.skip ?_
                | refine AWp.block ?_
                | refine AWp.exit ?_
                | refine AWp.ret ?_
                | refine AWp.draw0 (by kernel_rfl) ?_)
            | refine AThen.normal ?_
            | refine AThen.exit ?_
            | refine AThen.ret ?_
            | refine AThen.pan ?_
            | refine AInBlock.pan ?_
            | refine AInBlock.normal ?_
            | refine AInBlock.ret ?_
            | refine AInBlock.same ?_
            | refine AInBlock.other rfl ?_)
          refine bodyQ.one rfl rfl rfl ⟨?_, rfl⟩
          rw [hres, hpre, okFrom_end b hlt]

set_option maxHeartbeats 400000 in
theorem keys_ok : Ans 62 [] (.islice (strs keyList) 19) := by
  intro M
  refine ACalls.of_body Try.func62 rfl rfl rfl ?_
  simp only [Try.ntmps62, frOf]
  repeat' (first
      | (show DOps _ _ _ _ _ _ _ _ _ _ _; first
          | refine D.end ?_
          | refine D.val (.inl rfl) rfl rfl rfl ?_
          | refine D.leave rfl rfl rfl rfl ?_
          | refine D.val (Wants.take rfl rfl) rfl rfl rfl ?_
          | refine D.cmp rfl (.inl rfl) rfl rfl rfl (fun _ => ?_) (fun _ => ?_)
          | refine D.valO (.inl rfl) rfl rfl rfl rfl ?_
          | refine D.build (.inl rfl) rfl rfl rfl rfl rfl rfl rfl ?_
          | refine D.buildSlice (.inl rfl) rfl rfl rfl rfl rfl rfl rfl rfl rfl ?_
          | refine D.cmp rfl (Wants.take rfl rfl) rfl rfl rfl (fun _ => ?_) (fun _ => ?_)
          | refine D.valO (Wants.take rfl rfl) rfl rfl rfl rfl ?_
          | refine D.build (Wants.take rfl rfl) rfl rfl rfl rfl rfl rfl rfl ?_
          | refine D.buildSlice (Wants.take rfl rfl) rfl rfl rfl rfl rfl rfl rfl rfl rfl ?_)
      | (show AOps _ _ _ _ _ _; first
          | refine AOps.nil ?_
          | refine AOps.plain rfl (W.pure rfl rfl rfl ?_)
          | refine AOps.plain rfl (W.cmp rfl rfl rfl rfl (fun _ => ?_) (fun _ => ?_))
          | refine W.leave rfl rfl rfl rfl ?_
          | refine AOps.take rfl rfl (W.pure rfl rfl rfl ?_)
          | refine AOps.take rfl rfl (W.cmp rfl rfl rfl rfl (fun _ => ?_) (fun _ => ?_))
          | refine AOps.plain rfl (W.boxI rfl rfl rfl rfl rfl rfl ?_)
          | refine AOps.plain rfl (W.build rfl rfl rfl rfl rfl rfl rfl ?_)
          | refine AOps.plain rfl (W.alloc rfl rfl rfl rfl rfl ?_)
          | refine AOps.plain rfl (W.storeL rfl rfl rfl rfl rfl rfl rfl rfl rfl ?_)
          | refine AOps.plain rfl (W.buildSlice rfl rfl rfl rfl rfl rfl rfl rfl rfl ?_))
      | (show AWp _ _ _ _ _; first
          | refine AWp.seq ?_
          | refine AWp.region ?_
          | refine AWp.condT rfl ?_
          | refine AWp.condF rfl ?_
          | refine AWp.skip ?_
          | refine AWp.block ?_
          | refine AWp.exit ?_
          | refine AWp.ret ?_
          | refine AWp.draw0 (by kernel_rfl) ?_)
      | refine AThen.normal ?_
      | refine AThen.exit ?_
      | refine AThen.ret ?_
      | refine AThen.pan ?_
      | refine AInBlock.pan ?_
      | refine AInBlock.normal ?_
      | refine AInBlock.ret ?_
      | refine AInBlock.same ?_
      | refine AInBlock.other rfl ?_)
  exact bodyQ.one (c := .islice (strs keyList) 19) rfl rfl rfl ⟨rfl, rfl⟩

theorem any_drop {α : Type} (l : List α) (p : α → Bool) {k : Nat} (h : k < l.length) : (l.drop k).any p = (p l[k] || (l.drop (k + 1)).any p) := by
  rw [List.drop_eq_getElem_cons h, List.any_cons]

set_option maxHeartbeats 2000000 in
theorem has_ok (l : List ByteArray) (b : ByteArray) (hl : l.length < 281474976710656) : Ans 61 [.islice (strs l) l.length, .str b] (.bool (l.any fun x => seq x b)) := by
  intro M
  refine ACalls.of_body Try.func61 rfl rfl rfl ?_
  simp only [Try.ntmps61, frOf]
  repeat' (first
      | (show DOps _ _ _ _ _ _ _ _ _ _ _; first
          | refine D.end ?_
          | refine D.val (.inl rfl) rfl rfl rfl ?_
          | refine D.leave rfl rfl rfl rfl ?_
          | refine D.val (Wants.take rfl rfl) rfl rfl rfl ?_
          | refine D.cmp rfl (.inl rfl) rfl rfl rfl (fun _ => ?_) (fun _ => ?_)
          | refine D.valO (.inl rfl) rfl rfl rfl rfl ?_
          | refine D.build (.inl rfl) rfl rfl rfl rfl rfl rfl rfl ?_
          | refine D.buildSlice (.inl rfl) rfl rfl rfl rfl rfl rfl rfl rfl rfl ?_
          | refine D.cmp rfl (Wants.take rfl rfl) rfl rfl rfl (fun _ => ?_) (fun _ => ?_)
          | refine D.valO (Wants.take rfl rfl) rfl rfl rfl rfl ?_
          | refine D.build (Wants.take rfl rfl) rfl rfl rfl rfl rfl rfl rfl ?_
          | refine D.buildSlice (Wants.take rfl rfl) rfl rfl rfl rfl rfl rfl rfl rfl rfl ?_)
      | (show AOps _ _ _ _ _ _; first
          | refine AOps.nil ?_
          | refine AOps.plain rfl (W.pure rfl rfl rfl ?_)
          | refine AOps.plain rfl (W.cmp rfl rfl rfl rfl (fun _ => ?_) (fun _ => ?_))
          | refine W.leave rfl rfl rfl rfl ?_
          | refine AOps.take rfl rfl (W.pure rfl rfl rfl ?_)
          | refine AOps.take rfl rfl (W.cmp rfl rfl rfl rfl (fun _ => ?_) (fun _ => ?_))
          | refine AOps.plain rfl (W.boxI rfl rfl rfl rfl rfl rfl ?_)
          | refine AOps.plain rfl (W.build rfl rfl rfl rfl rfl rfl rfl ?_)
          | refine AOps.plain rfl (W.alloc rfl rfl rfl rfl rfl ?_)
          | refine AOps.plain rfl (W.storeL rfl rfl rfl rfl rfl rfl rfl rfl rfl ?_)
          | refine AOps.plain rfl (W.buildSlice rfl rfl rfl rfl rfl rfl rfl rfl rfl ?_))
      | (show AWp _ _ _ _ _; first
          | refine AWp.seq ?_
          | refine AWp.region ?_
          | refine AWp.condT rfl ?_
          | refine AWp.condF rfl ?_
          | refine AWp.skip ?_
          | refine AWp.block ?_
          | refine AWp.exit ?_
          | refine AWp.ret ?_
          | refine AWp.draw0 (by kernel_rfl) ?_)
      | refine AThen.normal ?_
      | refine AThen.exit ?_
      | refine AThen.ret ?_
      | refine AThen.pan ?_
      | refine AInBlock.pan ?_
      | refine AInBlock.normal ?_
      | refine AInBlock.ret ?_
      | refine AInBlock.same ?_
      | refine AInBlock.other rfl ?_)
  refine AWp.loop ?_
  refine AWpL.upto (fun k s => l.any (fun x => seq x b) = (l.drop k).any (fun x => seq x b) ∧
    ∃ fr, s = { fr := fr, loc := [], M := M, ds := [] } ∧ Sub fr [(0, .islice (strs l) l.length), (1, .str b), (5, .int .i64 (k : Int))]) l.length ?_ 0 _ (Nat.zero_le _)
    ⟨rfl, _, rfl, rfl, rfl, rfl, trivial⟩
  rintro k s hk ⟨hpre, fr, rfl, hsub⟩ hnext
  refine AWp.mask hsub ?_
  clear hsub
  by_cases hlt : k < l.length
  · have hst := any_drop l (fun x => seq x b) hlt
    cases he : seq l[k] b with
    | true =>
      repeat' (first
          | (show DOps _ _ _ _ _ _ _ _ _ _ _; first
              | refine D.end ?_
              | refine D.val (.inl rfl) rfl rfl rfl ?_
              | refine D.leave rfl rfl rfl rfl ?_
              | refine D.val (Wants.take rfl rfl) rfl rfl rfl ?_
              | refine (D.cmpT rfl (.inl rfl) rfl rfl rfl (decide_eq_true (by omega)) ?_)
              | refine (D.cmpT rfl (.inl rfl) rfl rfl rfl (he) ?_)
              | refine D.cmp rfl (.inl rfl) rfl rfl rfl (fun _ => ?_) (fun _ => ?_)
              | refine D.valO (.inl rfl) rfl rfl rfl rfl ?_
              | refine D.build (.inl rfl) rfl rfl rfl rfl rfl rfl rfl ?_
              | refine D.buildSlice (.inl rfl) rfl rfl rfl rfl rfl rfl rfl rfl rfl ?_
              | refine (D.cmpT rfl (Wants.take rfl rfl) rfl rfl rfl (decide_eq_true (by omega)) ?_)
              | refine (D.cmpT rfl (Wants.take rfl rfl) rfl rfl rfl (he) ?_)
              | refine D.cmp rfl (Wants.take rfl rfl) rfl rfl rfl (fun _ => ?_) (fun _ => ?_)
              | refine D.valO (Wants.take rfl rfl) rfl rfl rfl rfl ?_
              | refine D.build (Wants.take rfl rfl) rfl rfl rfl rfl rfl rfl rfl ?_
              | refine D.buildSlice (Wants.take rfl rfl) rfl rfl rfl rfl rfl rfl rfl rfl rfl ?_)
          | (show AOps _ _ _ _ _ _; first
              | refine AOps.nil ?_
              | refine AOps.plain rfl (W.pure rfl rfl rfl ?_)
              | refine AOps.plain rfl (W.cmpT rfl rfl rfl rfl (decide_eq_true (by omega)) ?_)
              | refine AOps.plain rfl (W.indexAddr rfl rfl rfl rfl rfl rfl (by omega) (by omega) (strs_ne hlt) ?_)
              | refine AOps.plain rfl (W.loadRow rfl rfl rfl rfl (ld_name hlt) ?_)
              | refine AOps.plain rfl (W.cmpT rfl rfl rfl rfl (he) ?_)
              | refine AOps.plain rfl (W.cmp rfl rfl rfl rfl (fun _ => ?_) (fun _ => ?_))
              | refine W.leave rfl rfl rfl rfl ?_
              | refine AOps.take rfl rfl (W.pure rfl rfl rfl ?_)
              | refine AOps.take rfl rfl (W.cmpT rfl rfl rfl rfl (decide_eq_true (by omega)) ?_)
              | refine AOps.take rfl rfl (W.indexAddr rfl rfl rfl rfl rfl rfl (by omega) (by omega) (strs_ne hlt) ?_)
              | refine AOps.take rfl rfl (W.loadRow rfl rfl rfl rfl (ld_name hlt) ?_)
              | refine AOps.take rfl rfl (W.cmpT rfl rfl rfl rfl (he) ?_)
              | refine AOps.take rfl rfl (W.cmp rfl rfl rfl rfl (fun _ => ?_) (fun _ => ?_))
              | refine AOps.plain rfl (W.boxI rfl rfl rfl rfl rfl rfl ?_)
              | refine AOps.plain rfl (W.build rfl rfl rfl rfl rfl rfl rfl ?_)
              | refine AOps.plain rfl (W.alloc rfl rfl rfl rfl rfl ?_)
              | refine AOps.plain rfl (W.storeL rfl rfl rfl rfl rfl rfl rfl rfl rfl ?_)
              | refine AOps.plain rfl (W.buildSlice rfl rfl rfl rfl rfl rfl rfl rfl rfl ?_))
          | (show AWp _ _ _ _ _; first
              | refine AWp.seq ?_
              | refine AWp.region ?_
              | refine AWp.condT rfl ?_
              | refine AWp.condF rfl ?_
              | refine AWp.skip ?_
              | refine AWp.block ?_
              | refine AWp.exit ?_
              | refine AWp.ret ?_
              | refine AWp.draw0 (by kernel_rfl) ?_)
          | refine AThen.normal ?_
          | refine AThen.exit ?_
          | refine AThen.ret ?_
          | refine AThen.pan ?_
          | refine AInBlock.pan ?_
          | refine AInBlock.normal ?_
          | refine AInBlock.ret ?_
          | refine AInBlock.same ?_
          | refine AInBlock.other rfl ?_)
      refine bodyQ.one rfl rfl rfl ⟨?_, rfl⟩
      rw [hpre, hst, he]; rfl
    | false =>
      repeat' (first
          | (show DOps _ _ _ _ _ _ _ _ _ _ _; first
              | refine D.end ?_
              | refine D.val (.inl rfl) rfl rfl rfl ?_
              | refine D.leave rfl rfl rfl rfl ?_
              | refine D.val (Wants.take rfl rfl) rfl rfl rfl ?_
              | refine (D.cmpT rfl (.inl rfl) rfl rfl rfl (decide_eq_true (by omega)) ?_)
              | refine (D.cmpF rfl (.inl rfl) rfl rfl rfl (he) ?_)
              | refine D.cmp rfl (.inl rfl) rfl rfl rfl (fun _ => ?_) (fun _ => ?_)
              | refine D.valO (.inl rfl) rfl rfl rfl rfl ?_
              | refine D.build (.inl rfl) rfl rfl rfl rfl rfl rfl rfl ?_
              | refine D.buildSlice (.inl rfl) rfl rfl rfl rfl rfl rfl rfl rfl rfl ?_
              | refine (D.cmpT rfl (Wants.take rfl rfl) rfl rfl rfl (decide_eq_true (by omega)) ?_)
              | refine (D.cmpF rfl (Wants.take rfl rfl) rfl rfl rfl (he) ?_)
              | refine D.cmp rfl (Wants.take rfl rfl) rfl rfl rfl (fun _ => ?_) (fun _ => ?_)
              | refine D.valO (Wants.take rfl rfl) rfl rfl rfl rfl ?_
              | refine D.build (Wants.take rfl rfl) rfl rfl rfl rfl rfl rfl rfl ?_
              | refine D.buildSlice (Wants.take rfl rfl) rfl rfl rfl rfl rfl rfl rfl rfl rfl ?_)
          | (show AOps _ _ _ _ _ _; first
              | refine AOps.nil ?_
              | refine AOps.plain rfl (W.pure rfl rfl rfl ?_)
              | refine AOps.plain rfl (W.cmpT rfl rfl rfl rfl (decide_eq_true (by omega)) ?_)
              | refine AOps.plain rfl (W.indexAddr rfl rfl rfl rfl rfl rfl (by omega) (by omega) (strs_ne hlt) ?_)
              | refine AOps.plain rfl (W.loadRow rfl rfl rfl rfl (ld_name hlt) ?_)
              | refine AOps.plain rfl (W.cmpF rfl rfl rfl rfl (he) ?_)
              | refine AOps.plain rfl (W.cmp rfl rfl rfl rfl (fun _ => ?_) (fun _ => ?_))
              | refine W.leave rfl rfl rfl rfl ?_
              | refine AOps.take rfl rfl (W.pure rfl rfl rfl ?_)
              | refine AOps.take rfl rfl (W.cmpT rfl rfl rfl rfl (decide_eq_true (by omega)) ?_)
              | refine AOps.take rfl rfl (W.indexAddr rfl rfl rfl rfl rfl rfl (by omega) (by omega) (strs_ne hlt) ?_)
              | refine AOps.take rfl rfl (W.loadRow rfl rfl rfl rfl (ld_name hlt) ?_)
              | refine AOps.take rfl rfl (W.cmpF rfl rfl rfl rfl (he) ?_)
              | refine AOps.take rfl rfl (W.cmp rfl rfl rfl rfl (fun _ => ?_) (fun _ => ?_))
              | refine AOps.plain rfl (W.boxI rfl rfl rfl rfl rfl rfl ?_)
              | refine AOps.plain rfl (W.build rfl rfl rfl rfl rfl rfl rfl ?_)
              | refine AOps.plain rfl (W.alloc rfl rfl rfl rfl rfl ?_)
              | refine AOps.plain rfl (W.storeL rfl rfl rfl rfl rfl rfl rfl rfl rfl ?_)
              | refine AOps.plain rfl (W.buildSlice rfl rfl rfl rfl rfl rfl rfl rfl rfl ?_))
          | (show AWp _ _ _ _ _; first
              | refine AWp.seq ?_
              | refine AWp.region ?_
              | refine AWp.condT rfl ?_
              | refine AWp.condF rfl ?_
              | refine AWp.skip ?_
              | refine AWp.block ?_
              | refine AWp.exit ?_
              | refine AWp.ret ?_
              | refine AWp.draw0 (by kernel_rfl) ?_)
          | refine AThen.normal ?_
          | refine AThen.exit ?_
          | refine AThen.ret ?_
          | refine AThen.pan ?_
          | refine AInBlock.pan ?_
          | refine AInBlock.normal ?_
          | refine AInBlock.ret ?_
          | refine AInBlock.same ?_
          | refine AInBlock.other rfl ?_)
      refine hnext.out _ hlt ⟨?_, _, rfl, rfl, rfl, subInt (wrapAdd (by omega) (by omega)), trivial⟩
      rw [hpre, hst, he]; rfl
  · repeat' (first
      | (show DOps _ _ _ _ _ _ _ _ _ _ _; first
          | refine D.end ?_
          | refine D.val (.inl rfl) rfl rfl rfl ?_
          | refine D.leave rfl rfl rfl rfl ?_
          | refine D.val (Wants.take rfl rfl) rfl rfl rfl ?_
          | refine (D.cmpF rfl (.inl rfl) rfl rfl rfl (decide_eq_false (by omega)) ?_)
          | refine D.cmp rfl (.inl rfl) rfl rfl rfl (fun _ => ?_) (fun _ => ?_)
          | refine D.valO (.inl rfl) rfl rfl rfl rfl ?_
          | refine D.build (.inl rfl) rfl rfl rfl rfl rfl rfl rfl ?_
          | refine D.buildSlice (.inl rfl) rfl rfl rfl rfl rfl rfl rfl rfl rfl ?_
          | refine (D.cmpF rfl (Wants.take rfl rfl) rfl rfl rfl (decide_eq_false (by omega)) ?_)
          | refine D.cmp rfl (Wants.take rfl rfl) rfl rfl rfl (fun _ => ?_) (fun _ => ?_)
          | refine D.valO (Wants.take rfl rfl) rfl rfl rfl rfl ?_
          | refine D.build (Wants.take rfl rfl) rfl rfl rfl rfl rfl rfl rfl ?_
          | refine D.buildSlice (Wants.take rfl rfl) rfl rfl rfl rfl rfl rfl rfl rfl rfl ?_)
      | (show AOps _ _ _ _ _ _; first
          | refine AOps.nil ?_
          | refine AOps.plain rfl (W.pure rfl rfl rfl ?_)
          | refine AOps.plain rfl (W.cmpF rfl rfl rfl rfl (decide_eq_false (by omega)) ?_)
          | refine AOps.plain rfl (W.cmp rfl rfl rfl rfl (fun _ => ?_) (fun _ => ?_))
          | refine W.leave rfl rfl rfl rfl ?_
          | refine AOps.take rfl rfl (W.pure rfl rfl rfl ?_)
          | refine AOps.take rfl rfl (W.cmpF rfl rfl rfl rfl (decide_eq_false (by omega)) ?_)
          | refine AOps.take rfl rfl (W.cmp rfl rfl rfl rfl (fun _ => ?_) (fun _ => ?_))
          | refine AOps.plain rfl (W.boxI rfl rfl rfl rfl rfl rfl ?_)
          | refine AOps.plain rfl (W.build rfl rfl rfl rfl rfl rfl rfl ?_)
          | refine AOps.plain rfl (W.alloc rfl rfl rfl rfl rfl ?_)
          | refine AOps.plain rfl (W.storeL rfl rfl rfl rfl rfl rfl rfl rfl rfl ?_)
          | refine AOps.plain rfl (W.buildSlice rfl rfl rfl rfl rfl rfl rfl rfl rfl ?_))
      | (show AWp _ _ _ _ _; first
          | refine AWp.seq ?_
          | refine AWp.region ?_
          | refine AWp.condT rfl ?_
          | refine AWp.condF rfl ?_
          | refine AWp.skip ?_
          | refine AWp.block ?_
          | refine AWp.exit ?_
          | refine AWp.ret ?_
          | refine AWp.draw0 (by kernel_rfl) ?_)
      | refine AThen.normal ?_
      | refine AThen.exit ?_
      | refine AThen.ret ?_
      | refine AThen.pan ?_
      | refine AInBlock.pan ?_
      | refine AInBlock.normal ?_
      | refine AInBlock.ret ?_
      | refine AInBlock.same ?_
      | refine AInBlock.other rfl ?_)
    refine bodyQ.one rfl rfl rfl ⟨?_, rfl⟩
    rw [hpre, List.drop_eq_nil_of_le (by omega)]; rfl

theorem seq_comm (a b : ByteArray) : seq a b = seq b a := by
  rw [Bool.eq_iff_iff, seq_iff, seq_iff]
  exact ⟨Eq.symm, Eq.symm⟩

set_option maxHeartbeats 400000 in
theorem refIsKey_ok (b : ByteArray) : Ans 50 [.str b] (.bool (isKeyB b)) := by
  intro M
  have h := has_ok keyList b (by decide) M
  have he : (keyList.any fun x => seq x b) = isKeyB b := by
    unfold isKeyB
    congr 1
    funext x
    exact seq_comm x b
  rw [he] at h
  refine ACalls.of_body Try.func50 rfl rfl rfl ?_
  simp only [Try.ntmps50, frOf]
  repeat' (first
      | (show DOps _ _ _ _ _ _ _ _ _ _ _; first
          | refine D.end ?_
          | refine D.val (.inl rfl) rfl rfl rfl ?_
          | refine D.leave rfl rfl rfl rfl ?_
          | refine D.val (Wants.take rfl rfl) rfl rfl rfl ?_
          | refine D.cmp rfl (.inl rfl) rfl rfl rfl (fun _ => ?_) (fun _ => ?_)
          | refine D.valO (.inl rfl) rfl rfl rfl rfl ?_
          | refine D.build (.inl rfl) rfl rfl rfl rfl rfl rfl rfl ?_
          | refine D.buildSlice (.inl rfl) rfl rfl rfl rfl rfl rfl rfl rfl rfl ?_
          | refine D.cmp rfl (Wants.take rfl rfl) rfl rfl rfl (fun _ => ?_) (fun _ => ?_)
          | refine D.valO (Wants.take rfl rfl) rfl rfl rfl rfl ?_
          | refine D.build (Wants.take rfl rfl) rfl rfl rfl rfl rfl rfl rfl ?_
          | refine D.buildSlice (Wants.take rfl rfl) rfl rfl rfl rfl rfl rfl rfl rfl rfl ?_)
      | (show AOps _ _ _ _ _ _; first
          | refine AOps.nil ?_
          | refine AOps.plain rfl (W.pure rfl rfl rfl ?_)
          | refine AOps.plain rfl (W.callV rfl rfl rfl rfl rfl (keys_ok M) rfl rfl rfl ?_)
          | refine AOps.plain rfl (W.callB rfl rfl rfl rfl rfl (h) rfl rfl (fun _ => ?_) (fun _ => ?_))
          | refine AOps.plain rfl (W.cmp rfl rfl rfl rfl (fun _ => ?_) (fun _ => ?_))
          | refine W.leave rfl rfl rfl rfl ?_
          | refine AOps.take rfl rfl (W.pure rfl rfl rfl ?_)
          | refine AOps.take rfl rfl (W.callV rfl rfl rfl rfl rfl (keys_ok M) rfl rfl rfl ?_)
          | refine AOps.take rfl rfl (W.callB rfl rfl rfl rfl rfl (h) rfl rfl (fun _ => ?_) (fun _ => ?_))
          | refine AOps.take rfl rfl (W.cmp rfl rfl rfl rfl (fun _ => ?_) (fun _ => ?_))
          | refine AOps.plain rfl (W.boxI rfl rfl rfl rfl rfl rfl ?_)
          | refine AOps.plain rfl (W.build rfl rfl rfl rfl rfl rfl rfl ?_)
          | refine AOps.plain rfl (W.alloc rfl rfl rfl rfl rfl ?_)
          | refine AOps.plain rfl (W.storeL rfl rfl rfl rfl rfl rfl rfl rfl rfl ?_)
          | refine AOps.plain rfl (W.buildSlice rfl rfl rfl rfl rfl rfl rfl rfl rfl ?_))
      | (show AWp _ _ _ _ _; first
          | refine AWp.seq ?_
          | refine AWp.region ?_
          | refine AWp.condT rfl ?_
          | refine AWp.condF rfl ?_
          | refine AWp.skip ?_
          | refine AWp.block ?_
          | refine AWp.exit ?_
          | refine AWp.ret ?_
          | refine AWp.draw0 (by kernel_rfl) ?_)
      | refine AThen.normal ?_
      | refine AThen.exit ?_
      | refine AThen.ret ?_
      | refine AThen.pan ?_
      | refine AInBlock.pan ?_
      | refine AInBlock.normal ?_
      | refine AInBlock.ret ?_
      | refine AInBlock.same ?_
      | refine AInBlock.other rfl ?_)
  all_goals refine bodyQ.one rfl rfl rfl ⟨?_, rfl⟩
  all_goals simp [*]

set_option maxHeartbeats 400000 in
theorem refName_ok (b : ByteArray) (hb : b.size < 281474976710656) : Ans 37 [.str b] (.bool (nameB b)) := by
  intro M
  refine ACalls.of_body Try.func37 rfl rfl rfl ?_
  simp only [Try.ntmps37, frOf]
  repeat' (first
      | (show DOps _ _ _ _ _ _ _ _ _ _ _; first
          | refine D.end ?_
          | refine D.val (.inl rfl) rfl rfl rfl ?_
          | refine D.leave rfl rfl rfl rfl ?_
          | refine D.val (Wants.take rfl rfl) rfl rfl rfl ?_
          | refine D.cmp rfl (.inl rfl) rfl rfl rfl (fun _ => ?_) (fun _ => ?_)
          | refine D.valO (.inl rfl) rfl rfl rfl rfl ?_
          | refine D.build (.inl rfl) rfl rfl rfl rfl rfl rfl rfl ?_
          | refine D.buildSlice (.inl rfl) rfl rfl rfl rfl rfl rfl rfl rfl rfl ?_
          | refine D.cmp rfl (Wants.take rfl rfl) rfl rfl rfl (fun _ => ?_) (fun _ => ?_)
          | refine D.valO (Wants.take rfl rfl) rfl rfl rfl rfl ?_
          | refine D.build (Wants.take rfl rfl) rfl rfl rfl rfl rfl rfl rfl ?_
          | refine D.buildSlice (Wants.take rfl rfl) rfl rfl rfl rfl rfl rfl rfl rfl rfl ?_)
      | (show AOps _ _ _ _ _ _; first
          | refine AOps.nil ?_
          | refine AOps.plain rfl (W.pure rfl rfl rfl ?_)
          | refine AOps.plain rfl (W.callB rfl rfl rfl rfl rfl (refIsName_ok b hb M) rfl rfl (fun _ => ?_) (fun _ => ?_))
          | refine AOps.plain rfl (W.callB rfl rfl rfl rfl rfl (refIsKey_ok b M) rfl rfl (fun _ => ?_) (fun _ => ?_))
          | refine AOps.plain rfl (W.cmp rfl rfl rfl rfl (fun _ => ?_) (fun _ => ?_))
          | refine W.leave rfl rfl rfl rfl ?_
          | refine AOps.take rfl rfl (W.pure rfl rfl rfl ?_)
          | refine AOps.take rfl rfl (W.callB rfl rfl rfl rfl rfl (refIsName_ok b hb M) rfl rfl (fun _ => ?_) (fun _ => ?_))
          | refine AOps.take rfl rfl (W.callB rfl rfl rfl rfl rfl (refIsKey_ok b M) rfl rfl (fun _ => ?_) (fun _ => ?_))
          | refine AOps.take rfl rfl (W.cmp rfl rfl rfl rfl (fun _ => ?_) (fun _ => ?_))
          | refine AOps.plain rfl (W.boxI rfl rfl rfl rfl rfl rfl ?_)
          | refine AOps.plain rfl (W.build rfl rfl rfl rfl rfl rfl rfl ?_)
          | refine AOps.plain rfl (W.alloc rfl rfl rfl rfl rfl ?_)
          | refine AOps.plain rfl (W.storeL rfl rfl rfl rfl rfl rfl rfl rfl rfl ?_)
          | refine AOps.plain rfl (W.buildSlice rfl rfl rfl rfl rfl rfl rfl rfl rfl ?_))
      | (show AWp _ _ _ _ _; first
          | refine AWp.seq ?_
          | refine AWp.region ?_
          | refine AWp.condT rfl ?_
          | refine AWp.condF rfl ?_
          | refine AWp.skip ?_
          | refine AWp.block ?_
          | refine AWp.exit ?_
          | refine AWp.ret ?_
          | refine AWp.draw0 (by kernel_rfl) ?_)
      | refine AThen.normal ?_
      | refine AThen.exit ?_
      | refine AThen.ret ?_
      | refine AThen.pan ?_
      | refine AInBlock.pan ?_
      | refine AInBlock.normal ?_
      | refine AInBlock.ret ?_
      | refine AInBlock.same ?_
      | refine AInBlock.other rfl ?_)
  all_goals refine bodyQ.one rfl rfl rfl ⟨?_, rfl⟩
  all_goals simp [nameB, *]

end Go.Proofs.Ytceocfancfjdjaa
