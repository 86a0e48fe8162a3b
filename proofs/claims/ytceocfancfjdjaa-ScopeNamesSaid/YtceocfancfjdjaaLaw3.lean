/- (D) ScopeNames answers true of every tree. No condition but that nothing is longer than there is room for. -/
import Derived.Test.YtceocfancfjdjaaPlain3
import Derived.Test.YtceocfancfjdjaaWorks
namespace Go.Proofs.Ytceocfancfjdjaa
open Go Go.RowKit
attribute [local irreducible] ACalls AOps AOp AWp AWpL AThen AInBlock bodyQ seq DOps

set_option maxHeartbeats 8000000 in
theorem names_law (t : Tree) (hsm : t.small) : ACalls 3 [t.cv] [] (fun r M' => r = .ret (.bool true) ∧ M' = []) := by
  have hfew := few_ok t hsm []
  have hw := works_ok
  cases hf : decide (leftT t 300 40 ≥ 0) with
  | false =>
    rw [hf] at hfew
    obtain ⟨k, o, n, s, ns, ks, p⟩ := t
    refine ACalls.of_body Try.func3 rfl rfl rfl ?_
    simp only [Try.ntmps3, frOf]
    repeat' (first
        | (show DOps _ _ _ _ _ _ _ _ _ _ _; first
            | refine D.end ?_
            | refine D.val (.inl rfl) rfl rfl rfl ?_
            | refine D.leave rfl rfl rfl rfl ?_
            | refine D.val (Wants.take rfl rfl) rfl rfl rfl ?_
            | refine D.cmp rfl (.inl rfl) rfl rfl rfl (fun _ => ?_) (fun _ => ?_)
            | refine D.valO (.inl rfl) rfl rfl rfl rfl ?_
            | refine D.build (.inl rfl) rfl rfl rfl rfl rfl rfl rfl ?_
            | refine D.buildSlice (.inl rfl) rfl rfl rfl rfl rfl rfl rfl rfl rfl ?_
            | refine D.cmp rfl (Wants.take rfl rfl) rfl rfl rfl (fun _ => ?_) (fun _ => ?_)
            | refine D.valO (Wants.take rfl rfl) rfl rfl rfl rfl ?_
            | refine D.build (Wants.take rfl rfl) rfl rfl rfl rfl rfl rfl rfl ?_
            | refine D.buildSlice (Wants.take rfl rfl) rfl rfl rfl rfl rfl rfl rfl rfl rfl ?_)
        | (show AOps _ _ _ _ _ _; first
            | refine AOps.nil ?_
            | refine AOps.plain rfl (W.pure rfl rfl rfl ?_)
            | refine AOps.plain rfl (W.callV rfl rfl rfl rfl rfl (hfew) rfl rfl rfl ?_)
            | refine AOps.plain rfl (W.callV rfl rfl rfl rfl rfl (hw) rfl rfl rfl ?_)
            | refine AOps.plain rfl (W.cmp rfl rfl rfl rfl (fun _ => ?_) (fun _ => ?_))
            | refine W.leave rfl rfl rfl rfl ?_
            | refine AOps.take rfl rfl (W.pure rfl rfl rfl ?_)
            | refine AOps.take rfl rfl (W.callV rfl rfl rfl rfl rfl (hfew) rfl rfl rfl ?_)
            | refine AOps.take rfl rfl (W.callV rfl rfl rfl rfl rfl (hw) rfl rfl rfl ?_)
            | refine AOps.take rfl rfl (W.cmp rfl rfl rfl rfl (fun _ => ?_) (fun _ => ?_))
            | refine AOps.plain rfl (W.boxI rfl rfl rfl rfl rfl rfl ?_)
            | refine AOps.plain rfl (W.build rfl rfl rfl rfl rfl rfl rfl ?_)
            | refine AOps.plain rfl (W.alloc rfl rfl rfl rfl rfl ?_)
            | refine AOps.plain rfl (W.storeL rfl rfl rfl rfl rfl rfl rfl rfl rfl ?_)
            | refine AOps.plain rfl (W.buildSlice rfl rfl rfl rfl rfl rfl rfl rfl rfl ?_))
        | (show AWp _ _ _ _ _; first
            | refine AWp.seq ?_
            | refine AWp.region ?_
            | refine AWp.condT rfl ?_
            | refine AWp.condF rfl ?_
            | refine AWp.skip ?_
            | refine AWp.block ?_
            | refine AWp.exit ?_
            | refine AWp.ret ?_
            | refine AWp.draw0 (by kernel_rfl) ?_)
        | refine AThen.normal ?_
        | refine AThen.exit ?_
        | refine AThen.ret ?_
        | refine AThen.pan ?_
        | refine AInBlock.pan ?_
        | refine AInBlock.normal ?_
        | refine AInBlock.ret ?_
        | refine AInBlock.same ?_
        | refine AInBlock.other rfl ?_)
    exact bodyQ.one rfl rfl rfl ⟨rfl, rfl⟩
  | true =>
    rw [hf] at hfew
    have htiny := leftT_tiny t 300 40 (by decide) (by decide) (by decide) (by simpa using hf)
    have hts := tiny_small t htiny.1
    have hms := turn_small t htiny.1
    have hturn := turned_ok t hts.1 hts.2 []
    have hrc1 := refCheck_ok t hts.1 (by omega) []
    have hrc2 := refCheck_ok (turnT t) hms.1 (by rw [hms.2.2]; omega) []
    have hres1 := resolve_ok t hts.1 hts.2
    have hres2 := resolve_ok (turnT t) hms.1 hms.2.1
    have hgood := resolve_good t hts.1
    have hsame := sameU_ok (resolveT t).1.1 (resolveT t).1.2 hgood.1 (by have := hgood.2; omega) []
    have heq : refCheckT t = 0 → refCheckT (turnT t) = 0 → resolveT (turnT t) = resolveT t := fun h1 h2 => resolve_turn t (check_of t h1) (check_of _ h2)
    clear htiny hts hms hgood hf hsm
    generalize resolveT t = R at hres1 hsame heq
    generalize resolveT (turnT t) = R2 at hres2 heq
    generalize refCheckT t = c1 at hrc1 heq
    generalize refCheckT (turnT t) = c2 at hrc2 heq
    generalize turnT t = t2 at hturn hrc2 hres2
    obtain ⟨k, o, n, s, ns, ks, p⟩ := t
    obtain ⟨k2, o2, n2, s2, ns2, ks2, p2⟩ := t2
    obtain ⟨⟨g, fs⟩, pos, e⟩ := R
    simp only at hsame hres1
    cases h1 : (c1 != 0) with
    | true =>
      refine ACalls.of_body Try.func3 rfl rfl rfl ?_
      simp only [Try.ntmps3, frOf]
      repeat' (first
          | (show DOps _ _ _ _ _ _ _ _ _ _ _; first
              | refine D.end ?_
              | refine D.val (.inl rfl) rfl rfl rfl ?_
              | refine D.leave rfl rfl rfl rfl ?_
              | refine D.val (Wants.take rfl rfl) rfl rfl rfl ?_
              | refine (D.cmpT rfl (.inl rfl) rfl rfl rfl (h1) ?_)
              | refine D.cmp rfl (.inl rfl) rfl rfl rfl (fun _ => ?_) (fun _ => ?_)
              | refine D.valO (.inl rfl) rfl rfl rfl rfl ?_
              | refine D.build (.inl rfl) rfl rfl rfl rfl rfl rfl rfl ?_
              | refine D.buildSlice (.inl rfl) rfl rfl rfl rfl rfl rfl rfl rfl rfl ?_
              | refine (D.cmpT rfl (Wants.take rfl rfl) rfl rfl rfl (h1) ?_)
              | refine D.cmp rfl (Wants.take rfl rfl) rfl rfl rfl (fun _ => ?_) (fun _ => ?_)
              | refine D.valO (Wants.take rfl rfl) rfl rfl rfl rfl ?_
              | refine D.build (Wants.take rfl rfl) rfl rfl rfl rfl rfl rfl rfl ?_
              | refine D.buildSlice (Wants.take rfl rfl) rfl rfl rfl rfl rfl rfl rfl rfl rfl ?_)
          | (show AOps _ _ _ _ _ _; first
              | refine AOps.nil ?_
              | refine AOps.plain rfl (W.pure rfl rfl rfl ?_)
              | refine AOps.plain rfl (W.callV rfl rfl rfl rfl rfl (hfew) rfl rfl rfl ?_)
              | refine AOps.plain rfl (W.callV rfl rfl rfl rfl rfl (hw) rfl rfl rfl ?_)
              | refine AOps.plain rfl (W.callV rfl rfl rfl rfl rfl (hturn) rfl rfl rfl ?_)
              | refine AOps.plain rfl (W.callV rfl rfl rfl rfl rfl (hrc1) rfl rfl rfl ?_)
              | refine AOps.plain rfl (W.cmpT rfl rfl rfl rfl (h1) ?_)
              | refine AOps.plain rfl (W.cmp rfl rfl rfl rfl (fun _ => ?_) (fun _ => ?_))
              | refine W.leave rfl rfl rfl rfl ?_
              | refine AOps.take rfl rfl (W.pure rfl rfl rfl ?_)
              | refine AOps.take rfl rfl (W.callV rfl rfl rfl rfl rfl (hfew) rfl rfl rfl ?_)
              | refine AOps.take rfl rfl (W.callV rfl rfl rfl rfl rfl (hw) rfl rfl rfl ?_)
              | refine AOps.take rfl rfl (W.callV rfl rfl rfl rfl rfl (hturn) rfl rfl rfl ?_)
              | refine AOps.take rfl rfl (W.callV rfl rfl rfl rfl rfl (hrc1) rfl rfl rfl ?_)
              | refine AOps.take rfl rfl (W.cmpT rfl rfl rfl rfl (h1) ?_)
              | refine AOps.take rfl rfl (W.cmp rfl rfl rfl rfl (fun _ => ?_) (fun _ => ?_))
              | refine AOps.plain rfl (W.boxI rfl rfl rfl rfl rfl rfl ?_)
              | refine AOps.plain rfl (W.build rfl rfl rfl rfl rfl rfl rfl ?_)
              | refine AOps.plain rfl (W.alloc rfl rfl rfl rfl rfl ?_)
              | refine AOps.plain rfl (W.storeL rfl rfl rfl rfl rfl rfl rfl rfl rfl ?_)
              | refine AOps.plain rfl (W.buildSlice rfl rfl rfl rfl rfl rfl rfl rfl rfl ?_))
          | (show AWp _ _ _ _ _; first
              | refine AWp.seq ?_
              | refine AWp.region ?_
              | refine AWp.condT rfl ?_
              | refine AWp.condF rfl ?_
              | refine AWp.skip ?_
              | refine AWp.block ?_
              | refine AWp.exit ?_
              | refine AWp.ret ?_
              | refine AWp.draw0 (by kernel_rfl) ?_)
          | refine AThen.normal ?_
          | refine AThen.exit ?_
          | refine AThen.ret ?_
          | refine AThen.pan ?_
          | refine AInBlock.pan ?_
          | refine AInBlock.normal ?_
          | refine AInBlock.ret ?_
          | refine AInBlock.same ?_
          | refine AInBlock.other rfl ?_)
      exact bodyQ.one rfl rfl rfl ⟨rfl, rfl⟩
    | false =>
      cases h2 : (c2 != 0) with
      | true =>
        refine ACalls.of_body Try.func3 rfl rfl rfl ?_
        simp only [Try.ntmps3, frOf]
        repeat' (first
            | (show DOps _ _ _ _ _ _ _ _ _ _ _; first
                | refine D.end ?_
                | refine D.val (.inl rfl) rfl rfl rfl ?_
                | refine D.leave rfl rfl rfl rfl ?_
                | refine D.val (Wants.take rfl rfl) rfl rfl rfl ?_
                | refine (D.cmpF rfl (.inl rfl) rfl rfl rfl (h1) ?_)
                | refine (D.cmpT rfl (.inl rfl) rfl rfl rfl (h2) ?_)
                | refine D.cmp rfl (.inl rfl) rfl rfl rfl (fun _ => ?_) (fun _ => ?_)
                | refine D.valO (.inl rfl) rfl rfl rfl rfl ?_
                | refine D.build (.inl rfl) rfl rfl rfl rfl rfl rfl rfl ?_
                | refine D.buildSlice (.inl rfl) rfl rfl rfl rfl rfl rfl rfl rfl rfl ?_
                | refine (D.cmpF rfl (Wants.take rfl rfl) rfl rfl rfl (h1) ?_)
                | refine (D.cmpT rfl (Wants.take rfl rfl) rfl rfl rfl (h2) ?_)
                | refine D.cmp rfl (Wants.take rfl rfl) rfl rfl rfl (fun _ => ?_) (fun _ => ?_)
                | refine D.valO (Wants.take rfl rfl) rfl rfl rfl rfl ?_
                | refine D.build (Wants.take rfl rfl) rfl rfl rfl rfl rfl rfl rfl ?_
                | refine D.buildSlice (Wants.take rfl rfl) rfl rfl rfl rfl rfl rfl rfl rfl rfl ?_)
            | (show AOps _ _ _ _ _ _; first
                | refine AOps.nil ?_
                | refine AOps.plain rfl (W.pure rfl rfl rfl ?_)
                | refine AOps.plain rfl (W.callV rfl rfl rfl rfl rfl (hfew) rfl rfl rfl ?_)
                | refine AOps.plain rfl (W.callV rfl rfl rfl rfl rfl (hw) rfl rfl rfl ?_)
                | refine AOps.plain rfl (W.callV rfl rfl rfl rfl rfl (hturn) rfl rfl rfl ?_)
                | refine AOps.plain rfl (W.callV rfl rfl rfl rfl rfl (hrc1) rfl rfl rfl ?_)
                | refine AOps.plain rfl (W.callV rfl rfl rfl rfl rfl (hrc2) rfl rfl rfl ?_)
                | refine AOps.plain rfl (W.cmpF rfl rfl rfl rfl (h1) ?_)
                | refine AOps.plain rfl (W.cmpT rfl rfl rfl rfl (h2) ?_)
                | refine AOps.plain rfl (W.cmp rfl rfl rfl rfl (fun _ => ?_) (fun _ => ?_))
                | refine W.leave rfl rfl rfl rfl ?_
                | refine AOps.take rfl rfl (W.pure rfl rfl rfl ?_)
                | refine AOps.take rfl rfl (W.callV rfl rfl rfl rfl rfl (hfew) rfl rfl rfl ?_)
                | refine AOps.take rfl rfl (W.callV rfl rfl rfl rfl rfl (hw) rfl rfl rfl ?_)
                | refine AOps.take rfl rfl (W.callV rfl rfl rfl rfl rfl (hturn) rfl rfl rfl ?_)
                | refine AOps.take rfl rfl (W.callV rfl rfl rfl rfl rfl (hrc1) rfl rfl rfl ?_)
                | refine AOps.take rfl rfl (W.callV rfl rfl rfl rfl rfl (hrc2) rfl rfl rfl ?_)
                | refine AOps.take rfl rfl (W.cmpF rfl rfl rfl rfl (h1) ?_)
                | refine AOps.take rfl rfl (W.cmpT rfl rfl rfl rfl (h2) ?_)
                | refine AOps.take rfl rfl (W.cmp rfl rfl rfl rfl (fun _ => ?_) (fun _ => ?_))
                | refine AOps.plain rfl (W.boxI rfl rfl rfl rfl rfl rfl ?_)
                | refine AOps.plain rfl (W.build rfl rfl rfl rfl rfl rfl rfl ?_)
                | refine AOps.plain rfl (W.alloc rfl rfl rfl rfl rfl ?_)
                | refine AOps.plain rfl (W.storeL rfl rfl rfl rfl rfl rfl rfl rfl rfl ?_)
                | refine AOps.plain rfl (W.buildSlice rfl rfl rfl rfl rfl rfl rfl rfl rfl ?_))
            | (show AWp _ _ _ _ _; first
                | refine AWp.seq ?_
                | refine AWp.region ?_
                | refine AWp.condT rfl ?_
                | refine AWp.condF rfl ?_
                | refine AWp.skip ?_
                | refine AWp.block ?_
                | refine AWp.exit ?_
                | refine AWp.ret ?_
                | refine AWp.draw0 (by kernel_rfl) ?_)
            | refine AThen.normal ?_
            | refine AThen.exit ?_
            | refine AThen.ret ?_
            | refine AThen.pan ?_
            | refine AInBlock.pan ?_
            | refine AInBlock.normal ?_
            | refine AInBlock.ret ?_
            | refine AInBlock.same ?_
            | refine AInBlock.other rfl ?_)
        exact bodyQ.one rfl rfl rfl ⟨rfl, rfl⟩
      | false =>
        rw [heq (by simpa using h1) (by simpa using h2)] at hres2
        simp only at hres2
        clear heq
        refine ACalls.of_body Try.func3 rfl rfl rfl ?_
        simp only [Try.ntmps3, frOf]
        repeat' (first
            | (show DOps _ _ _ _ _ _ _ _ _ _ _; first
                | refine D.end ?_
                | refine D.val (.inl rfl) rfl rfl rfl ?_
                | refine D.leave rfl rfl rfl rfl ?_
                | refine D.val (Wants.take rfl rfl) rfl rfl rfl ?_
                | refine (D.cmpF rfl (.inl rfl) rfl rfl rfl (h1) ?_)
                | refine (D.cmpF rfl (.inl rfl) rfl rfl rfl (h2) ?_)
                | refine (D.cmpT rfl (.inl rfl) rfl rfl rfl (beq_self_eq_true _) ?_)
                | refine D.cmp rfl (.inl rfl) rfl rfl rfl (fun _ => ?_) (fun _ => ?_)
                | refine D.valO (.inl rfl) rfl rfl rfl rfl ?_
                | refine D.build (.inl rfl) rfl rfl rfl rfl rfl rfl rfl ?_
                | refine D.buildSlice (.inl rfl) rfl rfl rfl rfl rfl rfl rfl rfl rfl ?_
                | refine (D.cmpF rfl (Wants.take rfl rfl) rfl rfl rfl (h1) ?_)
                | refine (D.cmpF rfl (Wants.take rfl rfl) rfl rfl rfl (h2) ?_)
                | refine (D.cmpT rfl (Wants.take rfl rfl) rfl rfl rfl (beq_self_eq_true _) ?_)
                | refine D.cmp rfl (Wants.take rfl rfl) rfl rfl rfl (fun _ => ?_) (fun _ => ?_)
                | refine D.valO (Wants.take rfl rfl) rfl rfl rfl rfl ?_
                | refine D.build (Wants.take rfl rfl) rfl rfl rfl rfl rfl rfl rfl ?_
                | refine D.buildSlice (Wants.take rfl rfl) rfl rfl rfl rfl rfl rfl rfl rfl rfl ?_)
            | (show AOps _ _ _ _ _ _; first
                | refine AOps.nil ?_
                | refine AOps.plain rfl (W.pure rfl rfl rfl ?_)
                | refine AOps.plain rfl (W.callV rfl rfl rfl rfl rfl (hfew) rfl rfl rfl ?_)
                | refine AOps.plain rfl (W.callV rfl rfl rfl rfl rfl (hw) rfl rfl rfl ?_)
                | refine AOps.plain rfl (W.callV rfl rfl rfl rfl rfl (hturn) rfl rfl rfl ?_)
                | refine AOps.plain rfl (W.callV rfl rfl rfl rfl rfl (hrc1) rfl rfl rfl ?_)
                | refine AOps.plain rfl (W.callV rfl rfl rfl rfl rfl (hrc2) rfl rfl rfl ?_)
                | refine AOps.plain rfl (W.callV rfl rfl rfl rfl rfl (hres1) rfl rfl rfl ?_)
                | refine AOps.plain rfl (W.callV rfl rfl rfl rfl rfl (hres2) rfl rfl rfl ?_)
                | refine AOps.plain rfl (W.callV rfl rfl rfl rfl rfl (hsame) rfl rfl rfl ?_)
                | refine AOps.plain rfl (W.cmpF rfl rfl rfl rfl (h1) ?_)
                | refine AOps.plain rfl (W.cmpF rfl rfl rfl rfl (h2) ?_)
                | refine AOps.plain rfl (W.cmpT rfl rfl rfl rfl (beq_self_eq_true _) ?_)
                | refine AOps.plain rfl (W.cmp rfl rfl rfl rfl (fun _ => ?_) (fun _ => ?_))
                | refine W.leave rfl rfl rfl rfl ?_
                | refine AOps.take rfl rfl (W.pure rfl rfl rfl ?_)
                | refine AOps.take rfl rfl (W.callV rfl rfl rfl rfl rfl (hfew) rfl rfl rfl ?_)
                | refine AOps.take rfl rfl (W.callV rfl rfl rfl rfl rfl (hw) rfl rfl rfl ?_)
                | refine AOps.take rfl rfl (W.callV rfl rfl rfl rfl rfl (hturn) rfl rfl rfl ?_)
                | refine AOps.take rfl rfl (W.callV rfl rfl rfl rfl rfl (hrc1) rfl rfl rfl ?_)
                | refine AOps.take rfl rfl (W.callV rfl rfl rfl rfl rfl (hrc2) rfl rfl rfl ?_)
                | refine AOps.take rfl rfl (W.callV rfl rfl rfl rfl rfl (hres1) rfl rfl rfl ?_)
                | refine AOps.take rfl rfl (W.callV rfl rfl rfl rfl rfl (hres2) rfl rfl rfl ?_)
                | refine AOps.take rfl rfl (W.callV rfl rfl rfl rfl rfl (hsame) rfl rfl rfl ?_)
                | refine AOps.take rfl rfl (W.cmpF rfl rfl rfl rfl (h1) ?_)
                | refine AOps.take rfl rfl (W.cmpF rfl rfl rfl rfl (h2) ?_)
                | refine AOps.take rfl rfl (W.cmpT rfl rfl rfl rfl (beq_self_eq_true _) ?_)
                | refine AOps.take rfl rfl (W.cmp rfl rfl rfl rfl (fun _ => ?_) (fun _ => ?_))
                | refine AOps.plain rfl (W.boxI rfl rfl rfl rfl rfl rfl ?_)
                | refine AOps.plain rfl (W.build rfl rfl rfl rfl rfl rfl rfl ?_)
                | refine AOps.plain rfl (W.alloc rfl rfl rfl rfl rfl ?_)
                | refine AOps.plain rfl (W.storeL rfl rfl rfl rfl rfl rfl rfl rfl rfl ?_)
                | refine AOps.plain rfl (W.buildSlice rfl rfl rfl rfl rfl rfl rfl rfl rfl ?_))
            | (show AWp _ _ _ _ _; first
                | refine AWp.seq ?_
                | refine AWp.region ?_
                | refine AWp.condT rfl ?_
                | refine AWp.condF rfl ?_
                | refine AWp.skip ?_
                | refine AWp.block ?_
                | refine AWp.exit ?_
                | refine AWp.ret ?_
                | refine AWp.draw0 (by kernel_rfl) ?_)
            | refine AThen.normal ?_
            | refine AThen.exit ?_
            | refine AThen.ret ?_
            | refine AThen.pan ?_
            | refine AInBlock.pan ?_
            | refine AInBlock.normal ?_
            | refine AInBlock.ret ?_
            | refine AInBlock.same ?_
            | refine AInBlock.other rfl ?_)
        exact bodyQ.one rfl rfl rfl ⟨rfl, rfl⟩

end Go.Proofs.Ytceocfancfjdjaa
