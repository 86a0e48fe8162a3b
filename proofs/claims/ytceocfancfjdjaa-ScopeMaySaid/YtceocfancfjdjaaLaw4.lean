/- (D) ScopeMay answers true of every tree. No condition but that nothing is longer than there is room for. -/
import Derived.Test.YtceocfancfjdjaaPlain4
import Derived.Test.YtceocfancfjdjaaWorks
namespace Go.Proofs.Ytceocfancfjdjaa
open Go Go.RowKit
attribute [local irreducible] ACalls AOps AOp AWp AWpL AThen AInBlock bodyQ seq DOps

set_option maxHeartbeats 8000000 in
theorem may_law (t : Tree) (hsm : t.small) : ACalls 4 [t.cv] [] (fun r M' => r = .ret (.bool true) ∧ M' = []) := by
  have hfew := few_ok t hsm []
  have hw := works_ok
  cases hf : decide (leftT t 300 40 ≥ 0) with
  | false =>
    rw [hf] at hfew
    obtain ⟨k, o, n, s, ns, ks, p⟩ := t
    refine ACalls.of_body Try.func4 rfl rfl rfl ?_
    simp only [Try.ntmps4, frOf]
    repeat' (first
        | (show DOps _ _ _ _ _ _ _ _ _ _ _; first
            | refine D.end ?_
            | refine D.val (.inl rfl) rfl rfl rfl ?_
            | refine D.leave rfl rfl rfl rfl ?_
            | refine D.val (Wants.take rfl rfl) rfl rfl rfl ?_
            | refine D.cmp rfl (.inl rfl) rfl rfl rfl (fun _ => ?_) (fun _ => ?_)
            | refine D.valO (.inl rfl) rfl rfl rfl rfl ?_
            | refine D.build (.inl rfl) rfl rfl rfl rfl rfl rfl rfl ?_
            | refine D.buildSlice (.inl rfl) rfl rfl rfl rfl rfl rfl rfl rfl rfl ?_
            | refine D.cmp rfl (Wants.take rfl rfl) rfl rfl rfl (fun _ => ?_) (fun _ => ?_)
            | refine D.valO (Wants.take rfl rfl) rfl rfl rfl rfl ?_
            | refine D.build (Wants.take rfl rfl) rfl rfl rfl rfl rfl rfl rfl ?_
            | refine D.buildSlice (Wants.take rfl rfl) rfl rfl rfl rfl rfl rfl rfl rfl rfl ?_)
        | (show AOps _ _ _ _ _ _; first
            | refine AOps.nil ?_
            | refine AOps.plain rfl (W.pure rfl rfl rfl ?_)
            | refine AOps.plain rfl (W.callV rfl rfl rfl rfl rfl (hfew) rfl rfl rfl ?_)
            | refine AOps.plain rfl (W.callV rfl rfl rfl rfl rfl (hw) rfl rfl rfl ?_)
            | refine AOps.plain rfl (W.cmp rfl rfl rfl rfl (fun _ => ?_) (fun _ => ?_))
            | refine W.leave rfl rfl rfl rfl ?_
            | refine AOps.take rfl rfl (W.pure rfl rfl rfl ?_)
            | refine AOps.take rfl rfl (W.callV rfl rfl rfl rfl rfl (hfew) rfl rfl rfl ?_)
            | refine AOps.take rfl rfl (W.callV rfl rfl rfl rfl rfl (hw) rfl rfl rfl ?_)
            | refine AOps.take rfl rfl (W.cmp rfl rfl rfl rfl (fun _ => ?_) (fun _ => ?_))
            | refine AOps.plain rfl (W.boxI rfl rfl rfl rfl rfl rfl ?_)
            | refine AOps.plain rfl (W.build rfl rfl rfl rfl rfl rfl rfl ?_)
            | refine AOps.plain rfl (W.alloc rfl rfl rfl rfl rfl ?_)
            | refine AOps.plain rfl (W.storeL rfl rfl rfl rfl rfl rfl rfl rfl rfl ?_)
            | refine AOps.plain rfl (W.buildSlice rfl rfl rfl rfl rfl rfl rfl rfl rfl ?_))
        | (show AWp _ _ _ _ _; first
            | refine AWp.seq ?_
            | refine AWp.region ?_
            | refine AWp.condT rfl ?_
            | refine AWp.condF rfl ?_
            | refine AWp.skip ?_
            | refine AWp.block ?_
            | refine AWp.exit ?_
            | refine AWp.ret ?_
            | refine AWp.draw0 (by kernel_rfl) ?_)
        | refine AThen.normal ?_
        | refine AThen.exit ?_
        | refine AThen.ret ?_
        | refine AThen.pan ?_
        | refine AInBlock.pan ?_
        | refine AInBlock.normal ?_
        | refine AInBlock.ret ?_
        | refine AInBlock.same ?_
        | refine AInBlock.other rfl ?_)
    exact bodyQ.one rfl rfl rfl ⟨rfl, rfl⟩
  | true =>
    rw [hf] at hfew
    have htiny := leftT_tiny t 300 40 (by decide) (by decide) (by decide) (by simpa using hf)
    have hts := tiny_small t htiny.1
    have hres := resolve_ok t hts.1 hts.2
    rcases resolve_may t hts.1 with ⟨he, hu⟩ | ⟨he, g, f0, fs, hu, hg0, hg1, hlen, hf0, hmay, hcnt⟩
    · rw [hu] at hres
      generalize (resolveT t).2.1 = pos at hres
      have h1 : ((resolveT t).2.2 != 0) = true := by simpa using he
      generalize (resolveT t).2.2 = e at hres h1
      clear he hu htiny hts hf hsm
      obtain ⟨k, o, n, s, ns, ks, p⟩ := t
      refine ACalls.of_body Try.func4 rfl rfl rfl ?_
      simp only [Try.ntmps4, frOf]
      repeat' (first
          | (show DOps _ _ _ _ _ _ _ _ _ _ _; first
              | refine D.end ?_
              | refine D.val (.inl rfl) rfl rfl rfl ?_
              | refine D.leave rfl rfl rfl rfl ?_
              | refine D.val (Wants.take rfl rfl) rfl rfl rfl ?_
              | refine (D.cmpT rfl (.inl rfl) rfl rfl rfl (h1) ?_)
              | refine D.cmp rfl (.inl rfl) rfl rfl rfl (fun _ => ?_) (fun _ => ?_)
              | refine D.valO (.inl rfl) rfl rfl rfl rfl ?_
              | refine D.build (.inl rfl) rfl rfl rfl rfl rfl rfl rfl ?_
              | refine D.buildSlice (.inl rfl) rfl rfl rfl rfl rfl rfl rfl rfl rfl ?_
              | refine (D.cmpT rfl (Wants.take rfl rfl) rfl rfl rfl (h1) ?_)
              | refine D.cmp rfl (Wants.take rfl rfl) rfl rfl rfl (fun _ => ?_) (fun _ => ?_)
              | refine D.valO (Wants.take rfl rfl) rfl rfl rfl rfl ?_
              | refine D.build (Wants.take rfl rfl) rfl rfl rfl rfl rfl rfl rfl ?_
              | refine D.buildSlice (Wants.take rfl rfl) rfl rfl rfl rfl rfl rfl rfl rfl rfl ?_)
          | (show AOps _ _ _ _ _ _; first
              | refine AOps.nil ?_
              | refine AOps.plain rfl (W.pure rfl rfl rfl ?_)
              | refine AOps.plain rfl (W.callV rfl rfl rfl rfl rfl (hfew) rfl rfl rfl ?_)
              | refine AOps.plain rfl (W.callV rfl rfl rfl rfl rfl (hw) rfl rfl rfl ?_)
              | refine AOps.plain rfl (W.callV rfl rfl rfl rfl rfl (hres) rfl rfl rfl ?_)
              | refine AOps.plain rfl (W.cmpT rfl rfl rfl rfl (h1) ?_)
              | refine AOps.plain rfl (W.cmp rfl rfl rfl rfl (fun _ => ?_) (fun _ => ?_))
              | refine W.leave rfl rfl rfl rfl ?_
              | refine AOps.take rfl rfl (W.pure rfl rfl rfl ?_)
              | refine AOps.take rfl rfl (W.callV rfl rfl rfl rfl rfl (hfew) rfl rfl rfl ?_)
              | refine AOps.take rfl rfl (W.callV rfl rfl rfl rfl rfl (hw) rfl rfl rfl ?_)
              | refine AOps.take rfl rfl (W.callV rfl rfl rfl rfl rfl (hres) rfl rfl rfl ?_)
              | refine AOps.take rfl rfl (W.cmpT rfl rfl rfl rfl (h1) ?_)
              | refine AOps.take rfl rfl (W.cmp rfl rfl rfl rfl (fun _ => ?_) (fun _ => ?_))
              | refine AOps.plain rfl (W.boxI rfl rfl rfl rfl rfl rfl ?_)
              | refine AOps.plain rfl (W.build rfl rfl rfl rfl rfl rfl rfl ?_)
              | refine AOps.plain rfl (W.alloc rfl rfl rfl rfl rfl ?_)
              | refine AOps.plain rfl (W.storeL rfl rfl rfl rfl rfl rfl rfl rfl rfl ?_)
              | refine AOps.plain rfl (W.buildSlice rfl rfl rfl rfl rfl rfl rfl rfl rfl ?_))
          | (show AWp _ _ _ _ _; first
              | refine AWp.seq ?_
              | refine AWp.region ?_
              | refine AWp.condT rfl ?_
              | refine AWp.condF rfl ?_
              | refine AWp.skip ?_
              | refine AWp.block ?_
              | refine AWp.exit ?_
              | refine AWp.ret ?_
              | refine AWp.draw0 (by kernel_rfl) ?_)
          | refine AThen.normal ?_
          | refine AThen.exit ?_
          | refine AThen.ret ?_
          | refine AThen.pan ?_
          | refine AInBlock.pan ?_
          | refine AInBlock.normal ?_
          | refine AInBlock.ret ?_
          | refine AInBlock.same ?_
          | refine AInBlock.other rfl ?_)
      exact bodyQ.one rfl rfl rfl ⟨rfl, rfl⟩
    · rw [hu, he] at hres
      generalize (resolveT t).2.1 = pos at hres
      have hcheck := scopeCheck_ok g f0 fs hg0 hg1 hlen hf0 hmay
      have hfun := functions_ok t hsm (by omega)
      have heq : (((f0 :: fs).length : Int) == IntKind.i64.wrap (fnsT t + 1)) = true := by
        rw [beq_iff_eq, hcnt, IntKind.wrap_i64]
        have := fnsT_pos t
        omega
      generalize fnsT t = cnt at hfun heq
      generalize f0 :: fs = us at hres hcheck heq
      clear he hu htiny hts hf hsm hmay hf0 hcnt hlen
      obtain ⟨k, o, n, s, ns, ks, p⟩ := t
      refine ACalls.of_body Try.func4 rfl rfl rfl ?_
      simp only [Try.ntmps4, frOf]
      repeat' (first
          | (show DOps _ _ _ _ _ _ _ _ _ _ _; first
              | refine D.end ?_
              | refine D.val (.inl rfl) rfl rfl rfl ?_
              | refine D.leave rfl rfl rfl rfl ?_
              | refine D.val (Wants.take rfl rfl) rfl rfl rfl ?_
              | refine (D.loadBox (.inl rfl) (by kernel_rfl) rfl rfl rfl rfl rfl rfl ?_)
              | refine D.callV (.inl rfl) rfl rfl rfl rfl rfl (hcheck) rfl rfl rfl ?_
              | refine D.callV (.inl rfl) rfl rfl rfl rfl rfl (hfun) rfl rfl rfl ?_
              | refine (D.cmpT rfl (.inl rfl) rfl rfl rfl (heq) ?_)
              | refine D.cmp rfl (.inl rfl) rfl rfl rfl (fun _ => ?_) (fun _ => ?_)
              | refine D.valO (.inl rfl) rfl rfl rfl rfl ?_
              | refine D.build (.inl rfl) rfl rfl rfl rfl rfl rfl rfl ?_
              | refine D.buildSlice (.inl rfl) rfl rfl rfl rfl rfl rfl rfl rfl rfl ?_
              | refine (D.loadBox (Wants.take rfl rfl) (by kernel_rfl) rfl rfl rfl rfl rfl rfl ?_)
              | refine D.callV (Wants.take rfl rfl) rfl rfl rfl rfl rfl (hcheck) rfl rfl rfl ?_
              | refine D.callV (Wants.take rfl rfl) rfl rfl rfl rfl rfl (hfun) rfl rfl rfl ?_
              | refine (D.cmpT rfl (Wants.take rfl rfl) rfl rfl rfl (heq) ?_)
              | refine D.cmp rfl (Wants.take rfl rfl) rfl rfl rfl (fun _ => ?_) (fun _ => ?_)
              | refine D.valO (Wants.take rfl rfl) rfl rfl rfl rfl ?_
              | refine D.build (Wants.take rfl rfl) rfl rfl rfl rfl rfl rfl rfl ?_
              | refine D.buildSlice (Wants.take rfl rfl) rfl rfl rfl rfl rfl rfl rfl rfl rfl ?_)
          | (show AOps _ _ _ _ _ _; first
              | refine AOps.nil ?_
              | refine AOps.plain rfl (W.pure rfl rfl rfl ?_)
              | refine AOps.plain rfl (W.callV rfl rfl rfl rfl rfl (hfew) rfl rfl rfl ?_)
              | refine AOps.plain rfl (W.callV rfl rfl rfl rfl rfl (hw) rfl rfl rfl ?_)
              | refine AOps.plain rfl (W.callV rfl rfl rfl rfl rfl (hres) rfl rfl rfl ?_)
              | refine AOps.plain rfl (W.cmpT rfl rfl rfl rfl (heq) ?_)
              | refine AOps.plain rfl (W.cmp rfl rfl rfl rfl (fun _ => ?_) (fun _ => ?_))
              | refine W.leave rfl rfl rfl rfl ?_
              | refine AOps.take rfl rfl (W.pure rfl rfl rfl ?_)
              | refine AOps.take rfl rfl (W.callV rfl rfl rfl rfl rfl (hfew) rfl rfl rfl ?_)
              | refine AOps.take rfl rfl (W.callV rfl rfl rfl rfl rfl (hw) rfl rfl rfl ?_)
              | refine AOps.take rfl rfl (W.callV rfl rfl rfl rfl rfl (hres) rfl rfl rfl ?_)
              | refine AOps.take rfl rfl (W.cmpT rfl rfl rfl rfl (heq) ?_)
              | refine AOps.take rfl rfl (W.cmp rfl rfl rfl rfl (fun _ => ?_) (fun _ => ?_))
              | refine AOps.plain rfl (W.boxI rfl rfl rfl rfl rfl rfl ?_)
              | refine AOps.plain rfl (W.build rfl rfl rfl rfl rfl rfl rfl ?_)
              | refine AOps.plain rfl (W.alloc rfl rfl rfl rfl rfl ?_)
              | refine AOps.plain rfl (W.storeL rfl rfl rfl rfl rfl rfl rfl rfl rfl ?_)
              | refine AOps.plain rfl (W.buildSlice rfl rfl rfl rfl rfl rfl rfl rfl rfl ?_))
          | (show AWp _ _ _ _ _; first
              | refine AWp.draw [] 13 rfl (by kernel_rfl) (by kernel_rfl) rfl ?_
              | refine AWp.seq ?_
              | refine AWp.region ?_
              | refine AWp.condT rfl ?_
              | refine AWp.condF rfl ?_
              | refine AWp.skip ?_
              | refine AWp.block ?_
              | refine AWp.exit ?_
              | refine AWp.ret ?_
              | refine AWp.draw0 (by kernel_rfl) ?_)
          | refine AThen.normal ?_
          | refine AThen.exit ?_
          | refine AThen.ret ?_
          | refine AThen.pan ?_
          | refine AInBlock.pan ?_
          | refine AInBlock.normal ?_
          | refine AInBlock.ret ?_
          | refine AInBlock.same ?_
          | refine AInBlock.other rfl ?_)
      exact bodyQ.one rfl rfl rfl ⟨rfl, rfl⟩

end Go.Proofs.Ytceocfancfjdjaa
