/- (D) The scopes: any node's names are resolved. No condition. -/
import Derived.Test.YtceocfancfjdjaaScE
namespace Go.Proofs.Ytceocfancfjdjaa
open Go Go.RowKit
attribute [local irreducible] ACalls AOps AOp AWp AWpL AThen AInBlock bodyQ seq DOps

theorem roomies_mem {l : List Tree} (h : Tree.roomy.roomies l) {t : Tree} (ht : t ∈ l) : t.roomy := by
  induction l with
  | nil => cases ht
  | cons x r ih =>
    rcases List.mem_cons.1 ht with e | h'
    · rw [e]; exact h.1
    · exact ih h.2 h'

set_option maxHeartbeats 8000000 in
theorem node_ok (t : Tree) : t.small → t.roomy → NodeOk t := by
  induction t using Tree.ind with
  | h k o n s ns ks p ih =>
    intro hsm hro g whole own ov M ver fs hR hle
    have hkids : ∀ t, t ∈ ks → NodeOk t := fun t ht => ih t ht (smalls_mem hsm.2.2.2.2 ht) (roomies_mem hro.2.2 ht)
    have hnodes := nodes_ok ks g whole own ov hro.2.1 (fun t ht M ver fs => hkids t ht g whole own ov M ver fs) (fun t _ fs t' fs' hle h => (nodeR_len t _ _ _ _ _ hle h).2) M ver fs hR hle
    have hclone := clone_ok ns hsm.2.1 (by have := hro.1; omega)
    have hfun := fun hk => function_ok k o n s ns ks p hk hsm hro.1 hro.2.1 hkids g whole own ov M ver fs hR hle
    have hnm1 := named_ok hR k o n s ns ks p 18 19
    have hnm2 := named_ok hR k o n s ns ks p 33 34
    refine ACalls.of_body Try.func30 rfl rfl rfl ?_
    simp only [Try.ntmps30, frOf]
    by_cases h5 : k = 5
    · subst h5
      cases hf : findR whole own s with
      | none =>
        rw [hf] at hnm1
        have hc := ACalls.mono (QQ' := fun r M' => r = .pan (faultV (p, 14)) ∧ M' = M) hnm1 (fun r M' h => h)
        repeat' (first
            | (show DOps _ _ _ _ _ _ _ _ _ _ _; first
                | refine D.end ?_
                | refine D.val (.inl rfl) rfl rfl rfl ?_
                | refine D.leave rfl rfl rfl rfl ?_
                | refine D.val (Wants.take rfl rfl) rfl rfl rfl ?_
                | refine D.cmp rfl (.inl rfl) rfl rfl rfl (fun _ => ?_) (fun _ => ?_)
                | refine D.valO (.inl rfl) rfl rfl rfl rfl ?_
                | refine D.build (.inl rfl) rfl rfl rfl rfl rfl rfl rfl ?_
                | refine D.buildSlice (.inl rfl) rfl rfl rfl rfl rfl rfl rfl rfl rfl ?_
                | refine D.cmp rfl (Wants.take rfl rfl) rfl rfl rfl (fun _ => ?_) (fun _ => ?_)
                | refine D.valO (Wants.take rfl rfl) rfl rfl rfl rfl ?_
                | refine D.build (Wants.take rfl rfl) rfl rfl rfl rfl rfl rfl rfl ?_
                | refine D.buildSlice (Wants.take rfl rfl) rfl rfl rfl rfl rfl rfl rfl rfl rfl ?_)
            | (show AOps _ _ _ _ _ _; first
                | refine AOps.nil ?_
                | refine AOps.plain rfl (W.pure rfl rfl rfl ?_)
                | refine AOps.plain rfl (W.callP rfl rfl rfl rfl rfl hc rfl rfl (fun M' hM' => ?_))
                | refine AOps.plain rfl (W.cmp rfl rfl rfl rfl (fun _ => ?_) (fun _ => ?_))
                | refine W.leave rfl rfl rfl rfl ?_
                | refine AOps.take rfl rfl (W.pure rfl rfl rfl ?_)
                | refine AOps.take rfl rfl (W.callP rfl rfl rfl rfl rfl hc rfl rfl (fun M' hM' => ?_))
                | refine AOps.take rfl rfl (W.cmp rfl rfl rfl rfl (fun _ => ?_) (fun _ => ?_))
                | refine AOps.plain rfl (W.boxI rfl rfl rfl rfl rfl rfl ?_)
                | refine AOps.plain rfl (W.build rfl rfl rfl rfl rfl rfl rfl ?_)
                | refine AOps.plain rfl (W.alloc rfl rfl rfl rfl rfl ?_)
                | refine AOps.plain rfl (W.storeL rfl rfl rfl rfl rfl rfl rfl rfl rfl ?_)
                | refine AOps.plain rfl (W.buildSlice rfl rfl rfl rfl rfl rfl rfl rfl rfl ?_))
            | (show AWp _ _ _ _ _; first
                | refine AWp.seq ?_
                | refine AWp.region ?_
                | refine AWp.condT rfl ?_
                | refine AWp.condF rfl ?_
                | refine AWp.skip ?_
                | refine AWp.block ?_
                | refine AWp.exit ?_
                | refine AWp.ret ?_
                | refine AWp.draw0 (by kernel_rfl) ?_)
            | refine AThen.normal ?_
            | refine AThen.exit ?_
            | refine AThen.ret ?_
            | refine AThen.pan ?_
            | refine AInBlock.pan ?_
            | refine AInBlock.normal ?_
            | refine AInBlock.ret ?_
            | refine AInBlock.same ?_
            | refine AInBlock.other rfl ?_)
        refine bodyQ.pan rfl ?_
        have : nodeR (Tree.mk 5 o n s ns ks p) whole own fs = .error (p, 14) := by simp [nodeR, hf]
        rw [this]
        exact ⟨rfl, by rw [hM']; exact Keep0.refl M⟩
      | some q =>
        obtain ⟨x, l⟩ := q
        rw [hf] at hnm1
        have hc := ACalls.mono (QQ' := fun r M' => r = .ret (nameN (if l then 18 else 19) x).cv ∧ M' = M) hnm1 (fun r M' h => h)
        have hfin : nodeR (Tree.mk 5 o n s ns ks p) whole own fs = .ok (nameN (if l then 18 else 19) x, fs) := by simp [nodeR, hf]
        repeat' (first
            | (show DOps _ _ _ _ _ _ _ _ _ _ _; first
                | refine D.end ?_
                | refine D.val (.inl rfl) rfl rfl rfl ?_
                | refine D.leave rfl rfl rfl rfl ?_
                | refine D.val (Wants.take rfl rfl) rfl rfl rfl ?_
                | refine D.cmp rfl (.inl rfl) rfl rfl rfl (fun _ => ?_) (fun _ => ?_)
                | refine D.valO (.inl rfl) rfl rfl rfl rfl ?_
                | refine D.build (.inl rfl) rfl rfl rfl rfl rfl rfl rfl ?_
                | refine D.buildSlice (.inl rfl) rfl rfl rfl rfl rfl rfl rfl rfl rfl ?_
                | refine D.cmp rfl (Wants.take rfl rfl) rfl rfl rfl (fun _ => ?_) (fun _ => ?_)
                | refine D.valO (Wants.take rfl rfl) rfl rfl rfl rfl ?_
                | refine D.build (Wants.take rfl rfl) rfl rfl rfl rfl rfl rfl rfl ?_
                | refine D.buildSlice (Wants.take rfl rfl) rfl rfl rfl rfl rfl rfl rfl rfl rfl ?_)
            | (show AOps _ _ _ _ _ _; first
                | refine AOps.nil ?_
                | refine AOps.plain rfl (W.pure rfl rfl rfl ?_)
                | refine AOps.plain rfl (W.callV rfl rfl rfl rfl rfl (hc) rfl rfl rfl ?_)
                | refine AOps.plain rfl (W.cmp rfl rfl rfl rfl (fun _ => ?_) (fun _ => ?_))
                | refine W.leave rfl rfl rfl rfl ?_
                | refine AOps.take rfl rfl (W.pure rfl rfl rfl ?_)
                | refine AOps.take rfl rfl (W.callV rfl rfl rfl rfl rfl (hc) rfl rfl rfl ?_)
                | refine AOps.take rfl rfl (W.cmp rfl rfl rfl rfl (fun _ => ?_) (fun _ => ?_))
                | refine AOps.plain rfl (W.boxI rfl rfl rfl rfl rfl rfl ?_)
                | refine AOps.plain rfl (W.build rfl rfl rfl rfl rfl rfl rfl ?_)
                | refine AOps.plain rfl (W.alloc rfl rfl rfl rfl rfl ?_)
                | refine AOps.plain rfl (W.storeL rfl rfl rfl rfl rfl rfl rfl rfl rfl ?_)
                | refine AOps.plain rfl (W.buildSlice rfl rfl rfl rfl rfl rfl rfl rfl rfl ?_))
            | (show AWp _ _ _ _ _; first
                | refine AWp.seq ?_
                | refine AWp.region ?_
                | refine AWp.condT rfl ?_
                | refine AWp.condF rfl ?_
                | refine AWp.skip ?_
                | refine AWp.block ?_
                | refine AWp.exit ?_
                | refine AWp.ret ?_
                | refine AWp.draw0 (by kernel_rfl) ?_)
            | refine AThen.normal ?_
            | refine AThen.exit ?_
            | refine AThen.ret ?_
            | refine AThen.pan ?_
            | refine AInBlock.pan ?_
            | refine AInBlock.normal ?_
            | refine AInBlock.ret ?_
            | refine AInBlock.same ?_
            | refine AInBlock.other rfl ?_)
        refine bodyQ.cell rfl rfl (Freeze.same rfl) ?_
        rw [hfin]
        exact ⟨rfl, ver, hR, Keep.refl M⟩
    · have h5f : (k == 5) = false := by rw [beq_eq_false_iff_ne]; exact h5
      by_cases h8 : k = 8
      · subst h8
        have hcall := hfun rfl
        cases hres : nodeR (Tree.mk 8 o n s ns ks p) whole own fs with
        | error f =>
          rw [hres] at hcall
          have hc := ACalls.mono (QQ' := fun r M' => r = .pan (faultV f) ∧ Keep0 M M') hcall (fun r M' h => h)
          repeat' (first
              | (show DOps _ _ _ _ _ _ _ _ _ _ _; first
                  | refine D.end ?_
                  | refine D.val (.inl rfl) rfl rfl rfl ?_
                  | refine D.leave rfl rfl rfl rfl ?_
                  | refine D.val (Wants.take rfl rfl) rfl rfl rfl ?_
                  | refine D.cmp rfl (.inl rfl) rfl rfl rfl (fun _ => ?_) (fun _ => ?_)
                  | refine D.valO (.inl rfl) rfl rfl rfl rfl ?_
                  | refine D.build (.inl rfl) rfl rfl rfl rfl rfl rfl rfl ?_
                  | refine D.buildSlice (.inl rfl) rfl rfl rfl rfl rfl rfl rfl rfl rfl ?_
                  | refine D.cmp rfl (Wants.take rfl rfl) rfl rfl rfl (fun _ => ?_) (fun _ => ?_)
                  | refine D.valO (Wants.take rfl rfl) rfl rfl rfl rfl ?_
                  | refine D.build (Wants.take rfl rfl) rfl rfl rfl rfl rfl rfl rfl ?_
                  | refine D.buildSlice (Wants.take rfl rfl) rfl rfl rfl rfl rfl rfl rfl rfl rfl ?_)
              | (show AOps _ _ _ _ _ _; first
                  | refine AOps.nil ?_
                  | refine AOps.plain rfl (W.pure rfl rfl rfl ?_)
                  | refine AOps.plain rfl (W.callP rfl rfl rfl rfl rfl hc rfl rfl (fun M' hM' => ?_))
                  | refine AOps.plain rfl (W.cmp rfl rfl rfl rfl (fun _ => ?_) (fun _ => ?_))
                  | refine W.leave rfl rfl rfl rfl ?_
                  | refine AOps.take rfl rfl (W.pure rfl rfl rfl ?_)
                  | refine AOps.take rfl rfl (W.callP rfl rfl rfl rfl rfl hc rfl rfl (fun M' hM' => ?_))
                  | refine AOps.take rfl rfl (W.cmp rfl rfl rfl rfl (fun _ => ?_) (fun _ => ?_))
                  | refine AOps.plain rfl (W.boxI rfl rfl rfl rfl rfl rfl ?_)
                  | refine AOps.plain rfl (W.build rfl rfl rfl rfl rfl rfl rfl ?_)
                  | refine AOps.plain rfl (W.alloc rfl rfl rfl rfl rfl ?_)
                  | refine AOps.plain rfl (W.storeL rfl rfl rfl rfl rfl rfl rfl rfl rfl ?_)
                  | refine AOps.plain rfl (W.buildSlice rfl rfl rfl rfl rfl rfl rfl rfl rfl ?_))
              | (show AWp _ _ _ _ _; first
                  | refine AWp.seq ?_
                  | refine AWp.region ?_
                  | refine AWp.condT rfl ?_
                  | refine AWp.condF rfl ?_
                  | refine AWp.skip ?_
                  | refine AWp.block ?_
                  | refine AWp.exit ?_
                  | refine AWp.ret ?_
                  | refine AWp.draw0 (by kernel_rfl) ?_)
              | refine AThen.normal ?_
              | refine AThen.exit ?_
              | refine AThen.ret ?_
              | refine AThen.pan ?_
              | refine AInBlock.pan ?_
              | refine AInBlock.normal ?_
              | refine AInBlock.ret ?_
              | refine AInBlock.same ?_
              | refine AInBlock.other rfl ?_)
          exact bodyQ.pan rfl ⟨rfl, hM'⟩
        | ok q =>
          obtain ⟨t', fs'⟩ := q
          rw [hres] at hcall
          have hc := ACalls.mono (QQ' := fun r M' => r = .ret t'.cv ∧ ∃ ver', RSt M' g ver' fs' whole own ov ∧ Keep M M') hcall (fun r M' h => h)
          obtain ⟨k', o', n', s', ns', ks', p'⟩ := t'
          repeat' (first
              | (show DOps _ _ _ _ _ _ _ _ _ _ _; first
                  | refine D.end ?_
                  | refine D.val (.inl rfl) rfl rfl rfl ?_
                  | refine D.leave rfl rfl rfl rfl ?_
                  | refine D.val (Wants.take rfl rfl) rfl rfl rfl ?_
                  | refine D.cmp rfl (.inl rfl) rfl rfl rfl (fun _ => ?_) (fun _ => ?_)
                  | refine D.valO (.inl rfl) rfl rfl rfl rfl ?_
                  | refine D.build (.inl rfl) rfl rfl rfl rfl rfl rfl rfl ?_
                  | refine D.buildSlice (.inl rfl) rfl rfl rfl rfl rfl rfl rfl rfl rfl ?_
                  | refine D.cmp rfl (Wants.take rfl rfl) rfl rfl rfl (fun _ => ?_) (fun _ => ?_)
                  | refine D.valO (Wants.take rfl rfl) rfl rfl rfl rfl ?_
                  | refine D.build (Wants.take rfl rfl) rfl rfl rfl rfl rfl rfl rfl ?_
                  | refine D.buildSlice (Wants.take rfl rfl) rfl rfl rfl rfl rfl rfl rfl rfl rfl ?_)
              | (show AOps _ _ _ _ _ _; first
                  | refine AOps.nil ?_
                  | refine AOps.plain rfl (W.pure rfl rfl rfl ?_)
                  | refine AOps.plain rfl (W.callM rfl rfl rfl rfl rfl hc rfl rfl rfl (fun M' hM' => ?_))
                  | refine AOps.plain rfl (W.cmp rfl rfl rfl rfl (fun _ => ?_) (fun _ => ?_))
                  | refine W.leave rfl rfl rfl rfl ?_
                  | refine AOps.take rfl rfl (W.pure rfl rfl rfl ?_)
                  | refine AOps.take rfl rfl (W.callM rfl rfl rfl rfl rfl hc rfl rfl rfl (fun M' hM' => ?_))
                  | refine AOps.take rfl rfl (W.cmp rfl rfl rfl rfl (fun _ => ?_) (fun _ => ?_))
                  | refine AOps.plain rfl (W.boxI rfl rfl rfl rfl rfl rfl ?_)
                  | refine AOps.plain rfl (W.build rfl rfl rfl rfl rfl rfl rfl ?_)
                  | refine AOps.plain rfl (W.alloc rfl rfl rfl rfl rfl ?_)
                  | refine AOps.plain rfl (W.storeL rfl rfl rfl rfl rfl rfl rfl rfl rfl ?_)
                  | refine AOps.plain rfl (W.buildSlice rfl rfl rfl rfl rfl rfl rfl rfl rfl ?_))
              | (show AWp _ _ _ _ _; first
                  | refine AWp.seq ?_
                  | refine AWp.region ?_
                  | refine AWp.condT rfl ?_
                  | refine AWp.condF rfl ?_
                  | refine AWp.skip ?_
                  | refine AWp.block ?_
                  | refine AWp.exit ?_
                  | refine AWp.ret ?_
                  | refine AWp.draw0 (by kernel_rfl) ?_)
              | refine AThen.normal ?_
              | refine AThen.exit ?_
              | refine AThen.ret ?_
              | refine AThen.pan ?_
              | refine AInBlock.pan ?_
              | refine AInBlock.normal ?_
              | refine AInBlock.ret ?_
              | refine AInBlock.same ?_
              | refine AInBlock.other rfl ?_)
          refine bodyQ.cell rfl rfl (Freeze.same rfl) ?_
          exact ⟨rfl, hM'⟩
      · have h8f : (k == 8) = false := by rw [beq_eq_false_iff_ne]; exact h8
        by_cases hb : k = 21 ∨ k = 22
        · cases hf : findR whole own s with
          | none =>
            rw [hf] at hnm2
            have hc := ACalls.mono (QQ' := fun r M' => r = .pan (faultV (p, 14)) ∧ M' = M) hnm2 (fun r M' h => h)
            have hfin : nodeR (Tree.mk k o n s ns ks p) whole own fs = .error (p, 14) := by simp [nodeR, h5, h8, hb, hf]
            rw [hfin]
            rcases hb with rfl | rfl
            all_goals repeat' (first
                | (show DOps _ _ _ _ _ _ _ _ _ _ _; first
                    | refine D.end ?_
                    | refine D.val (.inl rfl) rfl rfl rfl ?_
                    | refine D.leave rfl rfl rfl rfl ?_
                    | refine D.val (Wants.take rfl rfl) rfl rfl rfl ?_
                    | refine D.cmp rfl (.inl rfl) rfl rfl rfl (fun _ => ?_) (fun _ => ?_)
                    | refine D.valO (.inl rfl) rfl rfl rfl rfl ?_
                    | refine D.build (.inl rfl) rfl rfl rfl rfl rfl rfl rfl ?_
                    | refine D.buildSlice (.inl rfl) rfl rfl rfl rfl rfl rfl rfl rfl rfl ?_
                    | refine D.cmp rfl (Wants.take rfl rfl) rfl rfl rfl (fun _ => ?_) (fun _ => ?_)
                    | refine D.valO (Wants.take rfl rfl) rfl rfl rfl rfl ?_
                    | refine D.build (Wants.take rfl rfl) rfl rfl rfl rfl rfl rfl rfl ?_
                    | refine D.buildSlice (Wants.take rfl rfl) rfl rfl rfl rfl rfl rfl rfl rfl rfl ?_)
                | (show AOps _ _ _ _ _ _; first
                    | refine AOps.nil ?_
                    | refine AOps.plain rfl (W.pure rfl rfl rfl ?_)
                    | refine AOps.plain rfl (W.callP rfl rfl rfl rfl rfl hc rfl rfl (fun M' hM' => ?_))
                    | refine AOps.plain rfl (W.cmp rfl rfl rfl rfl (fun _ => ?_) (fun _ => ?_))
                    | refine W.leave rfl rfl rfl rfl ?_
                    | refine AOps.take rfl rfl (W.pure rfl rfl rfl ?_)
                    | refine AOps.take rfl rfl (W.callP rfl rfl rfl rfl rfl hc rfl rfl (fun M' hM' => ?_))
                    | refine AOps.take rfl rfl (W.cmp rfl rfl rfl rfl (fun _ => ?_) (fun _ => ?_))
                    | refine AOps.plain rfl (W.boxI rfl rfl rfl rfl rfl rfl ?_)
                    | refine AOps.plain rfl (W.build rfl rfl rfl rfl rfl rfl rfl ?_)
                    | refine AOps.plain rfl (W.alloc rfl rfl rfl rfl rfl ?_)
                    | refine AOps.plain rfl (W.storeL rfl rfl rfl rfl rfl rfl rfl rfl rfl ?_)
                    | refine AOps.plain rfl (W.buildSlice rfl rfl rfl rfl rfl rfl rfl rfl rfl ?_))
                | (show AWp _ _ _ _ _; first
                    | refine AWp.seq ?_
                    | refine AWp.region ?_
                    | refine AWp.condT rfl ?_
                    | refine AWp.condF rfl ?_
                    | refine AWp.skip ?_
                    | refine AWp.block ?_
                    | refine AWp.exit ?_
                    | refine AWp.ret ?_
                    | refine AWp.draw0 (by kernel_rfl) ?_)
                | refine AThen.normal ?_
                | refine AThen.exit ?_
                | refine AThen.ret ?_
                | refine AThen.pan ?_
                | refine AInBlock.pan ?_
                | refine AInBlock.normal ?_
                | refine AInBlock.ret ?_
                | refine AInBlock.same ?_
                | refine AInBlock.other rfl ?_)
            all_goals exact bodyQ.pan rfl ⟨rfl, by rw [hM']; exact Keep0.refl M⟩
          | some q =>
            obtain ⟨x, l⟩ := q
            rw [hf] at hnm2
            have hc := ACalls.mono (QQ' := fun r M' => r = .ret (nameN (if l then 33 else 34) x).cv ∧ M' = M) hnm2 (fun r M' h => h)
            cases hr : nodesR ks whole own fs with
            | error f =>
              rw [hr] at hnodes
              have hc1 := ACalls.mono (QQ' := fun r M' => r = .pan (faultV f) ∧ Keep0 M M') hnodes (fun r M' h => h)
              have hfin : nodeR (Tree.mk k o n s ns ks p) whole own fs = .error f := by simp [nodeR, h5, h8, hb, hf, hr]
              rw [hfin]
              rcases hb with rfl | rfl
              all_goals repeat' (first
                  | (show DOps _ _ _ _ _ _ _ _ _ _ _; first
                      | refine D.end ?_
                      | refine D.val (.inl rfl) rfl rfl rfl ?_
                      | refine D.leave rfl rfl rfl rfl ?_
                      | refine D.val (Wants.take rfl rfl) rfl rfl rfl ?_
                      | refine D.cmp rfl (.inl rfl) rfl rfl rfl (fun _ => ?_) (fun _ => ?_)
                      | refine D.valO (.inl rfl) rfl rfl rfl rfl ?_
                      | refine D.build (.inl rfl) rfl rfl rfl rfl rfl rfl rfl ?_
                      | refine D.buildSlice (.inl rfl) rfl rfl rfl rfl rfl rfl rfl rfl rfl ?_
                      | refine D.cmp rfl (Wants.take rfl rfl) rfl rfl rfl (fun _ => ?_) (fun _ => ?_)
                      | refine D.valO (Wants.take rfl rfl) rfl rfl rfl rfl ?_
                      | refine D.build (Wants.take rfl rfl) rfl rfl rfl rfl rfl rfl rfl ?_
                      | refine D.buildSlice (Wants.take rfl rfl) rfl rfl rfl rfl rfl rfl rfl rfl rfl ?_)
                  | (show AOps _ _ _ _ _ _; first
                      | refine AOps.nil ?_
                      | refine AOps.plain rfl (W.pure rfl rfl rfl ?_)
                      | refine AOps.plain rfl (W.callV rfl rfl rfl rfl rfl (hc) rfl rfl rfl ?_)
                      | refine AOps.plain rfl (W.callP rfl rfl rfl rfl rfl hc1 rfl rfl (fun M' hM' => ?_))
                      | refine AOps.plain rfl (W.cmp rfl rfl rfl rfl (fun _ => ?_) (fun _ => ?_))
                      | refine W.leave rfl rfl rfl rfl ?_
                      | refine AOps.take rfl rfl (W.pure rfl rfl rfl ?_)
                      | refine AOps.take rfl rfl (W.callV rfl rfl rfl rfl rfl (hc) rfl rfl rfl ?_)
                      | refine AOps.take rfl rfl (W.callP rfl rfl rfl rfl rfl hc1 rfl rfl (fun M' hM' => ?_))
                      | refine AOps.take rfl rfl (W.cmp rfl rfl rfl rfl (fun _ => ?_) (fun _ => ?_))
                      | refine AOps.plain rfl (W.boxI rfl rfl rfl rfl rfl rfl ?_)
                      | refine AOps.plain rfl (W.build rfl rfl rfl rfl rfl rfl rfl ?_)
                      | refine AOps.plain rfl (W.alloc rfl rfl rfl rfl rfl ?_)
                      | refine AOps.plain rfl (W.storeL rfl rfl rfl rfl rfl rfl rfl rfl rfl ?_)
                      | refine AOps.plain rfl (W.buildSlice rfl rfl rfl rfl rfl rfl rfl rfl rfl ?_))
                  | (show AWp _ _ _ _ _; first
                      | refine AWp.seq ?_
                      | refine AWp.region ?_
                      | refine AWp.condT rfl ?_
                      | refine AWp.condF rfl ?_
                      | refine AWp.skip ?_
                      | refine AWp.block ?_
                      | refine AWp.exit ?_
                      | refine AWp.ret ?_
                      | refine AWp.draw0 (by kernel_rfl) ?_)
                  | refine AThen.normal ?_
                  | refine AThen.exit ?_
                  | refine AThen.ret ?_
                  | refine AThen.pan ?_
                  | refine AInBlock.pan ?_
                  | refine AInBlock.normal ?_
                  | refine AInBlock.ret ?_
                  | refine AInBlock.same ?_
                  | refine AInBlock.other rfl ?_)
              all_goals exact bodyQ.pan rfl ⟨rfl, hM'⟩
            | ok q =>
              obtain ⟨ks', fs'⟩ := q
              rw [hr] at hnodes
              have hc1 := ACalls.mono (QQ' := fun r M' => r = .ret (.islice (rows ks') ks'.length) ∧ ∃ ver', RSt M' g ver' fs' whole own ov ∧ Keep M M') hnodes (fun r M' h => h)
              have hfin : nodeR (Tree.mk k o n s ns ks p) whole own fs = .ok (.mk (if l then 33 else 34) 0 x nothing [] ks' 0, fs') := by simp [nodeR, h5, h8, hb, hf, hr]
              rw [hfin]
              rcases hb with rfl | rfl
              all_goals repeat' (first
                  | (show DOps _ _ _ _ _ _ _ _ _ _ _; first
                      | refine D.end ?_
                      | refine D.val (.inl rfl) rfl rfl rfl ?_
                      | refine D.leave rfl rfl rfl rfl ?_
                      | refine D.val (Wants.take rfl rfl) rfl rfl rfl ?_
                      | refine D.cmp rfl (.inl rfl) rfl rfl rfl (fun _ => ?_) (fun _ => ?_)
                      | refine D.valO (.inl rfl) rfl rfl rfl rfl ?_
                      | refine D.build (.inl rfl) rfl rfl rfl rfl rfl rfl rfl ?_
                      | refine D.buildSlice (.inl rfl) rfl rfl rfl rfl rfl rfl rfl rfl rfl ?_
                      | refine D.cmp rfl (Wants.take rfl rfl) rfl rfl rfl (fun _ => ?_) (fun _ => ?_)
                      | refine D.valO (Wants.take rfl rfl) rfl rfl rfl rfl ?_
                      | refine D.build (Wants.take rfl rfl) rfl rfl rfl rfl rfl rfl rfl ?_
                      | refine D.buildSlice (Wants.take rfl rfl) rfl rfl rfl rfl rfl rfl rfl rfl rfl ?_)
                  | (show AOps _ _ _ _ _ _; first
                      | refine AOps.nil ?_
                      | refine AOps.plain rfl (W.pure rfl rfl rfl ?_)
                      | refine AOps.plain rfl (W.callV rfl rfl rfl rfl rfl (hc) rfl rfl rfl ?_)
                      | refine AOps.plain rfl (W.callM rfl rfl rfl rfl rfl hc1 rfl rfl rfl (fun M' hM' => ?_))
                      | refine AOps.plain rfl (W.cmp rfl rfl rfl rfl (fun _ => ?_) (fun _ => ?_))
                      | refine W.leave rfl rfl rfl rfl ?_
                      | refine AOps.take rfl rfl (W.pure rfl rfl rfl ?_)
                      | refine AOps.take rfl rfl (W.callV rfl rfl rfl rfl rfl (hc) rfl rfl rfl ?_)
                      | refine AOps.take rfl rfl (W.callM rfl rfl rfl rfl rfl hc1 rfl rfl rfl (fun M' hM' => ?_))
                      | refine AOps.take rfl rfl (W.cmp rfl rfl rfl rfl (fun _ => ?_) (fun _ => ?_))
                      | refine AOps.plain rfl (W.boxI rfl rfl rfl rfl rfl rfl ?_)
                      | refine AOps.plain rfl (W.build rfl rfl rfl rfl rfl rfl rfl ?_)
                      | refine AOps.plain rfl (W.alloc rfl rfl rfl rfl rfl ?_)
                      | refine AOps.plain rfl (W.storeL rfl rfl rfl rfl rfl rfl rfl rfl rfl ?_)
                      | refine AOps.plain rfl (W.buildSlice rfl rfl rfl rfl rfl rfl rfl rfl rfl ?_))
                  | (show AWp _ _ _ _ _; first
                      | refine AWp.seq ?_
                      | refine AWp.region ?_
                      | refine AWp.condT rfl ?_
                      | refine AWp.condF rfl ?_
                      | refine AWp.skip ?_
                      | refine AWp.block ?_
                      | refine AWp.exit ?_
                      | refine AWp.ret ?_
                      | refine AWp.draw0 (by kernel_rfl) ?_)
                  | refine AThen.normal ?_
                  | refine AThen.exit ?_
                  | refine AThen.ret ?_
                  | refine AThen.pan ?_
                  | refine AInBlock.pan ?_
                  | refine AInBlock.normal ?_
                  | refine AInBlock.ret ?_
                  | refine AInBlock.same ?_
                  | refine AInBlock.other rfl ?_)
              all_goals refine bodyQ.cell rfl rfl (Freeze.same rfl) ?_
              all_goals exact ⟨rfl, hM'⟩
        · have h21f : (k == 21) = false := by rw [beq_eq_false_iff_ne]; omega
          have h22f : (k == 22) = false := by rw [beq_eq_false_iff_ne]; omega
          cases hr : nodesR ks whole own fs with
          | error f =>
            rw [hr] at hnodes
            have hc1 := ACalls.mono (QQ' := fun r M' => r = .pan (faultV f) ∧ Keep0 M M') hnodes (fun r M' h => h)
            have hfin : nodeR (Tree.mk k o n s ns ks p) whole own fs = .error f := by simp [nodeR, h5, h8, hb, hr]
            rw [hfin]
            repeat' (first
                | (show DOps _ _ _ _ _ _ _ _ _ _ _; first
                    | refine D.end ?_
                    | refine D.val (.inl rfl) rfl rfl rfl ?_
                    | refine D.leave rfl rfl rfl rfl ?_
                    | refine D.val (Wants.take rfl rfl) rfl rfl rfl ?_
                    | refine (D.cmpF rfl (.inl rfl) rfl rfl rfl (h5f) ?_)
                    | refine (D.cmpF rfl (.inl rfl) rfl rfl rfl (h8f) ?_)
                    | refine (D.cmpF rfl (.inl rfl) rfl rfl rfl (h21f) ?_)
                    | refine (D.cmpF rfl (.inl rfl) rfl rfl rfl (h22f) ?_)
                    | refine D.cmp rfl (.inl rfl) rfl rfl rfl (fun _ => ?_) (fun _ => ?_)
                    | refine D.valO (.inl rfl) rfl rfl rfl rfl ?_
                    | refine D.build (.inl rfl) rfl rfl rfl rfl rfl rfl rfl ?_
                    | refine D.buildSlice (.inl rfl) rfl rfl rfl rfl rfl rfl rfl rfl rfl ?_
                    | refine (D.cmpF rfl (Wants.take rfl rfl) rfl rfl rfl (h5f) ?_)
                    | refine (D.cmpF rfl (Wants.take rfl rfl) rfl rfl rfl (h8f) ?_)
                    | refine (D.cmpF rfl (Wants.take rfl rfl) rfl rfl rfl (h21f) ?_)
                    | refine (D.cmpF rfl (Wants.take rfl rfl) rfl rfl rfl (h22f) ?_)
                    | refine D.cmp rfl (Wants.take rfl rfl) rfl rfl rfl (fun _ => ?_) (fun _ => ?_)
                    | refine D.valO (Wants.take rfl rfl) rfl rfl rfl rfl ?_
                    | refine D.build (Wants.take rfl rfl) rfl rfl rfl rfl rfl rfl rfl ?_
                    | refine D.buildSlice (Wants.take rfl rfl) rfl rfl rfl rfl rfl rfl rfl rfl rfl ?_)
                | (show AOps _ _ _ _ _ _; first
                    | refine AOps.nil ?_
                    | refine AOps.plain rfl (W.pure rfl rfl rfl ?_)
                    | refine AOps.plain rfl (W.cmpF rfl rfl rfl rfl (h5f) ?_)
                    | refine AOps.plain rfl (W.cmpF rfl rfl rfl rfl (h8f) ?_)
                    | refine AOps.plain rfl (W.cmpF rfl rfl rfl rfl (h21f) ?_)
                    | refine AOps.plain rfl (W.cmpF rfl rfl rfl rfl (h22f) ?_)
                    | refine AOps.plain rfl (W.callV rfl rfl rfl rfl rfl (hclone M) rfl rfl rfl ?_)
                    | refine AOps.plain rfl (W.callP rfl rfl rfl rfl rfl hc1 rfl rfl (fun M' hM' => ?_))
                    | refine AOps.plain rfl (W.cmp rfl rfl rfl rfl (fun _ => ?_) (fun _ => ?_))
                    | refine W.leave rfl rfl rfl rfl ?_
                    | refine AOps.take rfl rfl (W.pure rfl rfl rfl ?_)
                    | refine AOps.take rfl rfl (W.cmpF rfl rfl rfl rfl (h5f) ?_)
                    | refine AOps.take rfl rfl (W.cmpF rfl rfl rfl rfl (h8f) ?_)
                    | refine AOps.take rfl rfl (W.cmpF rfl rfl rfl rfl (h21f) ?_)
                    | refine AOps.take rfl rfl (W.cmpF rfl rfl rfl rfl (h22f) ?_)
                    | refine AOps.take rfl rfl (W.callV rfl rfl rfl rfl rfl (hclone M) rfl rfl rfl ?_)
                    | refine AOps.take rfl rfl (W.callP rfl rfl rfl rfl rfl hc1 rfl rfl (fun M' hM' => ?_))
                    | refine AOps.take rfl rfl (W.cmp rfl rfl rfl rfl (fun _ => ?_) (fun _ => ?_))
                    | refine AOps.plain rfl (W.boxI rfl rfl rfl rfl rfl rfl ?_)
                    | refine AOps.plain rfl (W.build rfl rfl rfl rfl rfl rfl rfl ?_)
                    | refine AOps.plain rfl (W.alloc rfl rfl rfl rfl rfl ?_)
                    | refine AOps.plain rfl (W.storeL rfl rfl rfl rfl rfl rfl rfl rfl rfl ?_)
                    | refine AOps.plain rfl (W.buildSlice rfl rfl rfl rfl rfl rfl rfl rfl rfl ?_))
                | (show AWp _ _ _ _ _; first
                    | refine AWp.seq ?_
                    | refine AWp.region ?_
                    | refine AWp.condT rfl ?_
                    | refine AWp.condF rfl ?_
                    | refine AWp.skip ?_
                    | refine AWp.block ?_
                    | refine AWp.exit ?_
                    | refine AWp.ret ?_
                    | refine AWp.draw0 (by kernel_rfl) ?_)
                | refine AThen.normal ?_
                | refine AThen.exit ?_
                | refine AThen.ret ?_
                | refine AThen.pan ?_
                | refine AInBlock.pan ?_
                | refine AInBlock.normal ?_
                | refine AInBlock.ret ?_
                | refine AInBlock.same ?_
                | refine AInBlock.other rfl ?_)
            exact bodyQ.pan rfl ⟨rfl, hM'⟩
          | ok q =>
            obtain ⟨ks', fs'⟩ := q
            rw [hr] at hnodes
            have hc1 := ACalls.mono (QQ' := fun r M' => r = .ret (.islice (rows ks') ks'.length) ∧ ∃ ver', RSt M' g ver' fs' whole own ov ∧ Keep M M') hnodes (fun r M' h => h)
            have hfin : nodeR (Tree.mk k o n s ns ks p) whole own fs = .ok (.mk k o n s ns ks' 0, fs') := by simp [nodeR, h5, h8, hb, hr]
            rw [hfin]
            repeat' (first
                | (show DOps _ _ _ _ _ _ _ _ _ _ _; first
                    | refine D.end ?_
                    | refine D.val (.inl rfl) rfl rfl rfl ?_
                    | refine D.leave rfl rfl rfl rfl ?_
                    | refine D.val (Wants.take rfl rfl) rfl rfl rfl ?_
                    | refine (D.cmpF rfl (.inl rfl) rfl rfl rfl (h5f) ?_)
                    | refine (D.cmpF rfl (.inl rfl) rfl rfl rfl (h8f) ?_)
                    | refine (D.cmpF rfl (.inl rfl) rfl rfl rfl (h21f) ?_)
                    | refine (D.cmpF rfl (.inl rfl) rfl rfl rfl (h22f) ?_)
                    | refine D.cmp rfl (.inl rfl) rfl rfl rfl (fun _ => ?_) (fun _ => ?_)
                    | refine D.valO (.inl rfl) rfl rfl rfl rfl ?_
                    | refine D.build (.inl rfl) rfl rfl rfl rfl rfl rfl rfl ?_
                    | refine D.buildSlice (.inl rfl) rfl rfl rfl rfl rfl rfl rfl rfl rfl ?_
                    | refine (D.cmpF rfl (Wants.take rfl rfl) rfl rfl rfl (h5f) ?_)
                    | refine (D.cmpF rfl (Wants.take rfl rfl) rfl rfl rfl (h8f) ?_)
                    | refine (D.cmpF rfl (Wants.take rfl rfl) rfl rfl rfl (h21f) ?_)
                    | refine (D.cmpF rfl (Wants.take rfl rfl) rfl rfl rfl (h22f) ?_)
                    | refine D.cmp rfl (Wants.take rfl rfl) rfl rfl rfl (fun _ => ?_) (fun _ => ?_)
                    | refine D.valO (Wants.take rfl rfl) rfl rfl rfl rfl ?_
                    | refine D.build (Wants.take rfl rfl) rfl rfl rfl rfl rfl rfl rfl ?_
                    | refine D.buildSlice (Wants.take rfl rfl) rfl rfl rfl rfl rfl rfl rfl rfl rfl ?_)
                | (show AOps _ _ _ _ _ _; first
                    | refine AOps.nil ?_
                    | refine AOps.plain rfl (W.pure rfl rfl rfl ?_)
                    | refine AOps.plain rfl (W.cmpF rfl rfl rfl rfl (h5f) ?_)
                    | refine AOps.plain rfl (W.cmpF rfl rfl rfl rfl (h8f) ?_)
                    | refine AOps.plain rfl (W.cmpF rfl rfl rfl rfl (h21f) ?_)
                    | refine AOps.plain rfl (W.cmpF rfl rfl rfl rfl (h22f) ?_)
                    | refine AOps.plain rfl (W.callV rfl rfl rfl rfl rfl (hclone M) rfl rfl rfl ?_)
                    | refine AOps.plain rfl (W.callM rfl rfl rfl rfl rfl hc1 rfl rfl rfl (fun M' hM' => ?_))
                    | refine AOps.plain rfl (W.cmp rfl rfl rfl rfl (fun _ => ?_) (fun _ => ?_))
                    | refine W.leave rfl rfl rfl rfl ?_
                    | refine AOps.take rfl rfl (W.pure rfl rfl rfl ?_)
                    | refine AOps.take rfl rfl (W.cmpF rfl rfl rfl rfl (h5f) ?_)
                    | refine AOps.take rfl rfl (W.cmpF rfl rfl rfl rfl (h8f) ?_)
                    | refine AOps.take rfl rfl (W.cmpF rfl rfl rfl rfl (h21f) ?_)
                    | refine AOps.take rfl rfl (W.cmpF rfl rfl rfl rfl (h22f) ?_)
                    | refine AOps.take rfl rfl (W.callV rfl rfl rfl rfl rfl (hclone M) rfl rfl rfl ?_)
                    | refine AOps.take rfl rfl (W.callM rfl rfl rfl rfl rfl hc1 rfl rfl rfl (fun M' hM' => ?_))
                    | refine AOps.take rfl rfl (W.cmp rfl rfl rfl rfl (fun _ => ?_) (fun _ => ?_))
                    | refine AOps.plain rfl (W.boxI rfl rfl rfl rfl rfl rfl ?_)
                    | refine AOps.plain rfl (W.build rfl rfl rfl rfl rfl rfl rfl ?_)
                    | refine AOps.plain rfl (W.alloc rfl rfl rfl rfl rfl ?_)
                    | refine AOps.plain rfl (W.storeL rfl rfl rfl rfl rfl rfl rfl rfl rfl ?_)
                    | refine AOps.plain rfl (W.buildSlice rfl rfl rfl rfl rfl rfl rfl rfl rfl ?_))
                | (show AWp _ _ _ _ _; first
                    | refine AWp.seq ?_
                    | refine AWp.region ?_
                    | refine AWp.condT rfl ?_
                    | refine AWp.condF rfl ?_
                    | refine AWp.skip ?_
                    | refine AWp.block ?_
                    | refine AWp.exit ?_
                    | refine AWp.ret ?_
                    | refine AWp.draw0 (by kernel_rfl) ?_)
                | refine AThen.normal ?_
                | refine AThen.exit ?_
                | refine AThen.ret ?_
                | refine AThen.pan ?_
                | refine AInBlock.pan ?_
                | refine AInBlock.normal ?_
                | refine AInBlock.ret ?_
                | refine AInBlock.same ?_
                | refine AInBlock.other rfl ?_)
            refine bodyQ.cell rfl rfl (Freeze.same rfl) ?_
            exact ⟨rfl, hM'⟩

end Go.Proofs.Ytceocfancfjdjaa
