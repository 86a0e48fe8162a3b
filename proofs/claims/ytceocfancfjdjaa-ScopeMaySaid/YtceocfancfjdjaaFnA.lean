/- The functions that look through lists by a function handed over, and the small tests of names and nodes: what each answers. No condition. -/
import Derived.Test.YtceocfancfjdjaaTree
namespace Go.Proofs.Ytceocfancfjdjaa
open Go Go.RowKit
attribute [local irreducible] ACalls AOps AOp AWp AWpL AThen AInBlock bodyQ seq

theorem Tree.noL_cv (t : Tree) : noL t.cv = true := by cases t; rfl
theorem noLs_cv {t : Tree} {cap : List CV} (h : noLs cap = true) : noLs (t.cv :: cap) = true := by
  simp only [noLs, Bool.and_eq_true]; exact ⟨t.noL_cv, h⟩

set_option maxHeartbeats 1000000 in
theorem indexFuncN_ok (K : FuncId) (cap : List CV) (ks : List Tree) (p : Tree → Bool) (M : List AObj) (hcap : noLs cap = true) (hlen : ks.length < 281474976710656)
    (hf : ∀ t, t ∈ ks → ACalls K (t.cv :: cap) M (fun r M' => r = .ret (.bool (p t)) ∧ M' = M)) :
    ACalls 31 [.islice (rows ks) ks.length, .func K cap] M (fun r M' => (∃ i : Int, r = .ret (.int .i64 i) ∧ decide (i ≥ 0) = ks.any p) ∧ M' = M) := by
  refine ACalls.of_body Try.func31 rfl rfl rfl ?_
  simp only [Try.ntmps31, frOf]
  repeat' (first
      | (show AOps _ _ _ _ _ _; first
          | refine AOps.nil ?_
          | refine AOps.plain rfl (W.pure rfl rfl rfl ?_)
          | refine AOps.plain rfl (W.cmp rfl rfl rfl rfl (fun _ => ?_) (fun _ => ?_))
          | refine W.leave rfl rfl rfl rfl ?_
          | refine AOps.take rfl rfl (W.pure rfl rfl rfl ?_)
          | refine AOps.take rfl rfl (W.cmp rfl rfl rfl rfl (fun _ => ?_) (fun _ => ?_))
          | refine AOps.plain rfl (W.boxI rfl rfl rfl rfl rfl rfl ?_)
          | refine AOps.plain rfl (W.build rfl rfl rfl rfl rfl rfl rfl ?_)
          | refine AOps.plain rfl (W.alloc rfl rfl rfl rfl rfl ?_)
          | refine AOps.plain rfl (W.storeL rfl rfl rfl rfl rfl rfl rfl rfl rfl ?_)
          | refine AOps.plain rfl (W.buildSlice rfl rfl rfl rfl rfl rfl rfl rfl rfl ?_))
      | (show AWp _ _ _ _ _; first
          | refine AWp.seq ?_
          | refine AWp.region ?_
          | refine AWp.condT rfl ?_
          | refine AWp.condF rfl ?_
          | refine AWp.skip ?_
          | refine AWp.block ?_
          | refine AWp.exit ?_
          | refine AWp.ret ?_)
      | refine AThen.normal ?_
      | refine AThen.exit ?_
      | refine AThen.ret ?_
      | refine AThen.pan ?_
      | refine AInBlock.pan ?_
      | refine AInBlock.normal ?_
      | refine AInBlock.ret ?_
      | refine AInBlock.same ?_
      | refine AInBlock.other rfl ?_)
  refine AWp.loop ?_
  refine AWpL.upto (fun k s => (∀ j (hj : j < ks.length), j < k → p ks[j] = false) ∧
    ∃ fr, s = { fr := fr, loc := [], M := M, ds := [] } ∧ Sub fr [(0, .islice (rows ks) ks.length), (1, .func K cap), (7, .int .i64 (ks.length : Int)), (8, .int .i64 (k : Int))]) ks.length ?_ 0 _ (Nat.zero_le _)
    ⟨fun _ _ h => by omega, _, rfl, rfl, rfl, rfl, rfl, trivial⟩
  rintro k s hk ⟨hpre, fr, rfl, hsub⟩ hnext
  refine AWp.mask hsub ?_
  by_cases hlt : k < ks.length
  · have hcall := hf ks[k] (List.getElem_mem hlt)
    repeat' (first
        | (show AOps _ _ _ _ _ _; first
            | refine AOps.nil ?_
            | refine AOps.plain rfl (W.pure rfl rfl rfl ?_)
            | refine AOps.plain rfl (W.cmpT rfl rfl rfl rfl (decide_eq_true (by omega)) ?_)
            | refine AOps.plain rfl (W.indexAddr rfl rfl rfl rfl rfl rfl (by omega) (by omega) (rows_ne hlt) ?_)
            | refine AOps.plain rfl (W.loadRow rfl rfl rfl rfl (ld_kid hlt) ?_)
            | refine AOps.plain rfl (W.callB rfl rfl rfl rfl rfl hcall (noLs_cv hcap) rfl (fun _ => ?_) (fun _ => ?_))
            | refine AOps.plain rfl (W.cmp rfl rfl rfl rfl (fun _ => ?_) (fun _ => ?_))
            | refine W.leave rfl rfl rfl rfl ?_
            | refine AOps.take rfl rfl (W.pure rfl rfl rfl ?_)
            | refine AOps.take rfl rfl (W.cmpT rfl rfl rfl rfl (decide_eq_true (by omega)) ?_)
            | refine AOps.take rfl rfl (W.indexAddr rfl rfl rfl rfl rfl rfl (by omega) (by omega) (rows_ne hlt) ?_)
            | refine AOps.take rfl rfl (W.loadRow rfl rfl rfl rfl (ld_kid hlt) ?_)
            | refine AOps.take rfl rfl (W.callB rfl rfl rfl rfl rfl hcall (noLs_cv hcap) rfl (fun _ => ?_) (fun _ => ?_))
            | refine AOps.take rfl rfl (W.cmp rfl rfl rfl rfl (fun _ => ?_) (fun _ => ?_))
            | refine AOps.plain rfl (W.boxI rfl rfl rfl rfl rfl rfl ?_)
            | refine AOps.plain rfl (W.build rfl rfl rfl rfl rfl rfl rfl ?_)
            | refine AOps.plain rfl (W.alloc rfl rfl rfl rfl rfl ?_)
            | refine AOps.plain rfl (W.storeL rfl rfl rfl rfl rfl rfl rfl rfl rfl ?_)
            | refine AOps.plain rfl (W.buildSlice rfl rfl rfl rfl rfl rfl rfl rfl rfl ?_))
        | (show AWp _ _ _ _ _; first
            | refine AWp.seq ?_
            | refine AWp.region ?_
            | refine AWp.condT rfl ?_
            | refine AWp.condF rfl ?_
            | refine AWp.skip ?_
            | refine AWp.block ?_
            | refine AWp.exit ?_
            | refine AWp.ret ?_)
        | refine AThen.normal ?_
        | refine AThen.exit ?_
        | refine AThen.ret ?_
        | refine AThen.pan ?_
        | refine AInBlock.pan ?_
        | refine AInBlock.normal ?_
        | refine AInBlock.ret ?_
        | refine AInBlock.same ?_
        | refine AInBlock.other rfl ?_)
    · rename_i hp
      refine bodyQ.one rfl rfl rfl ⟨⟨k, rfl, ?_⟩, rfl⟩
      rw [decide_eq_true (by omega)]
      exact (List.any_eq_true.2 ⟨ks[k], List.getElem_mem hlt, hp⟩).symm
    · rename_i hp
      refine hnext.out _ hlt ⟨fun j hj hjk => ?_, _, rfl, rfl, rfl, rfl, ?_, trivial⟩
      · by_cases e : j = k
        · subst e; exact hp
        · exact hpre j hj (by omega)
      · exact congrArg (fun x => some (CV.int .i64 x)) (wrapAdd (by omega) (by omega))
  · repeat' (first
      | (show AOps _ _ _ _ _ _; first
          | refine AOps.nil ?_
          | refine AOps.plain rfl (W.pure rfl rfl rfl ?_)
          | refine AOps.plain rfl (W.cmpF rfl rfl rfl rfl (decide_eq_false (by omega)) ?_)
          | refine AOps.plain rfl (W.cmp rfl rfl rfl rfl (fun _ => ?_) (fun _ => ?_))
          | refine W.leave rfl rfl rfl rfl ?_
          | refine AOps.take rfl rfl (W.pure rfl rfl rfl ?_)
          | refine AOps.take rfl rfl (W.cmpF rfl rfl rfl rfl (decide_eq_false (by omega)) ?_)
          | refine AOps.take rfl rfl (W.cmp rfl rfl rfl rfl (fun _ => ?_) (fun _ => ?_))
          | refine AOps.plain rfl (W.boxI rfl rfl rfl rfl rfl rfl ?_)
          | refine AOps.plain rfl (W.build rfl rfl rfl rfl rfl rfl rfl ?_)
          | refine AOps.plain rfl (W.alloc rfl rfl rfl rfl rfl ?_)
          | refine AOps.plain rfl (W.storeL rfl rfl rfl rfl rfl rfl rfl rfl rfl ?_)
          | refine AOps.plain rfl (W.buildSlice rfl rfl rfl rfl rfl rfl rfl rfl rfl ?_))
      | (show AWp _ _ _ _ _; first
          | refine AWp.seq ?_
          | refine AWp.region ?_
          | refine AWp.condT rfl ?_
          | refine AWp.condF rfl ?_
          | refine AWp.skip ?_
          | refine AWp.block ?_
          | refine AWp.exit ?_
          | refine AWp.ret ?_)
      | refine AThen.normal ?_
      | refine AThen.exit ?_
      | refine AThen.ret ?_
      | refine AThen.pan ?_
      | refine AInBlock.pan ?_
      | refine AInBlock.normal ?_
      | refine AInBlock.ret ?_
      | refine AInBlock.same ?_
      | refine AInBlock.other rfl ?_)
    refine bodyQ.one rfl rfl rfl ⟨⟨-1, rfl, ?_⟩, rfl⟩
    have h1 : ks.any p = false := by
      rw [List.any_eq_false]
      intro x hx
      obtain ⟨j, hj, rfl⟩ := List.getElem_of_mem hx
      rw [hpre j hj (by omega)]
      simp
    rw [h1]
    rfl

theorem noLs_str {t : ByteArray} {cap : List CV} (h : noLs cap = true) : noLs (.str t :: cap) = true := by
  simp only [noLs, Bool.and_eq_true]; exact ⟨rfl, h⟩

set_option maxHeartbeats 1000000 in
theorem indexFuncS_ok (K : FuncId) (cap : List CV) (ks : List ByteArray) (p : ByteArray → Bool) (M : List AObj) (hcap : noLs cap = true) (hlen : ks.length < 281474976710656)
    (hf : ∀ t, t ∈ ks → ACalls K (.str t :: cap) M (fun r M' => r = .ret (.bool (p t)) ∧ M' = M)) :
    ACalls 66 [.islice (strs ks) ks.length, .func K cap] M (fun r M' => (∃ i : Int, r = .ret (.int .i64 i) ∧ decide (i ≥ 0) = ks.any p) ∧ M' = M) := by
  refine ACalls.of_body Try.func66 rfl rfl rfl ?_
  simp only [Try.ntmps66, frOf]
  repeat' (first
      | (show AOps _ _ _ _ _ _; first
          | refine AOps.nil ?_
          | refine AOps.plain rfl (W.pure rfl rfl rfl ?_)
          | refine AOps.plain rfl (W.cmp rfl rfl rfl rfl (fun _ => ?_) (fun _ => ?_))
          | refine W.leave rfl rfl rfl rfl ?_
          | refine AOps.take rfl rfl (W.pure rfl rfl rfl ?_)
          | refine AOps.take rfl rfl (W.cmp rfl rfl rfl rfl (fun _ => ?_) (fun _ => ?_))
          | refine AOps.plain rfl (W.boxI rfl rfl rfl rfl rfl rfl ?_)
          | refine AOps.plain rfl (W.build rfl rfl rfl rfl rfl rfl rfl ?_)
          | refine AOps.plain rfl (W.alloc rfl rfl rfl rfl rfl ?_)
          | refine AOps.plain rfl (W.storeL rfl rfl rfl rfl rfl rfl rfl rfl rfl ?_)
          | refine AOps.plain rfl (W.buildSlice rfl rfl rfl rfl rfl rfl rfl rfl rfl ?_))
      | (show AWp _ _ _ _ _; first
          | refine AWp.seq ?_
          | refine AWp.region ?_
          | refine AWp.condT rfl ?_
          | refine AWp.condF rfl ?_
          | refine AWp.skip ?_
          | refine AWp.block ?_
          | refine AWp.exit ?_
          | refine AWp.ret ?_)
      | refine AThen.normal ?_
      | refine AThen.exit ?_
      | refine AThen.ret ?_
      | refine AThen.pan ?_
      | refine AInBlock.pan ?_
      | refine AInBlock.normal ?_
      | refine AInBlock.ret ?_
      | refine AInBlock.same ?_
      | refine AInBlock.other rfl ?_)
  refine AWp.loop ?_
  refine AWpL.upto (fun k s => (∀ j (hj : j < ks.length), j < k → p ks[j] = false) ∧
    ∃ fr, s = { fr := fr, loc := [], M := M, ds := [] } ∧ Sub fr [(0, .islice (strs ks) ks.length), (1, .func K cap), (7, .int .i64 (ks.length : Int)), (8, .int .i64 (k : Int))]) ks.length ?_ 0 _ (Nat.zero_le _)
    ⟨fun _ _ h => by omega, _, rfl, rfl, rfl, rfl, rfl, trivial⟩
  rintro k s hk ⟨hpre, fr, rfl, hsub⟩ hnext
  refine AWp.mask hsub ?_
  by_cases hlt : k < ks.length
  · have hcall := hf ks[k] (List.getElem_mem hlt)
    repeat' (first
        | (show AOps _ _ _ _ _ _; first
            | refine AOps.nil ?_
            | refine AOps.plain rfl (W.pure rfl rfl rfl ?_)
            | refine AOps.plain rfl (W.cmpT rfl rfl rfl rfl (decide_eq_true (by omega)) ?_)
            | refine AOps.plain rfl (W.indexAddr rfl rfl rfl rfl rfl rfl (by omega) (by omega) (strs_ne hlt) ?_)
            | refine AOps.plain rfl (W.loadRow rfl rfl rfl rfl (ld_name hlt) ?_)
            | refine AOps.plain rfl (W.callB rfl rfl rfl rfl rfl hcall (noLs_str hcap) rfl (fun _ => ?_) (fun _ => ?_))
            | refine AOps.plain rfl (W.cmp rfl rfl rfl rfl (fun _ => ?_) (fun _ => ?_))
            | refine W.leave rfl rfl rfl rfl ?_
            | refine AOps.take rfl rfl (W.pure rfl rfl rfl ?_)
            | refine AOps.take rfl rfl (W.cmpT rfl rfl rfl rfl (decide_eq_true (by omega)) ?_)
            | refine AOps.take rfl rfl (W.indexAddr rfl rfl rfl rfl rfl rfl (by omega) (by omega) (strs_ne hlt) ?_)
            | refine AOps.take rfl rfl (W.loadRow rfl rfl rfl rfl (ld_name hlt) ?_)
            | refine AOps.take rfl rfl (W.callB rfl rfl rfl rfl rfl hcall (noLs_str hcap) rfl (fun _ => ?_) (fun _ => ?_))
            | refine AOps.take rfl rfl (W.cmp rfl rfl rfl rfl (fun _ => ?_) (fun _ => ?_))
            | refine AOps.plain rfl (W.boxI rfl rfl rfl rfl rfl rfl ?_)
            | refine AOps.plain rfl (W.build rfl rfl rfl rfl rfl rfl rfl ?_)
            | refine AOps.plain rfl (W.alloc rfl rfl rfl rfl rfl ?_)
            | refine AOps.plain rfl (W.storeL rfl rfl rfl rfl rfl rfl rfl rfl rfl ?_)
            | refine AOps.plain rfl (W.buildSlice rfl rfl rfl rfl rfl rfl rfl rfl rfl ?_))
        | (show AWp _ _ _ _ _; first
            | refine AWp.seq ?_
            | refine AWp.region ?_
            | refine AWp.condT rfl ?_
            | refine AWp.condF rfl ?_
            | refine AWp.skip ?_
            | refine AWp.block ?_
            | refine AWp.exit ?_
            | refine AWp.ret ?_)
        | refine AThen.normal ?_
        | refine AThen.exit ?_
        | refine AThen.ret ?_
        | refine AThen.pan ?_
        | refine AInBlock.pan ?_
        | refine AInBlock.normal ?_
        | refine AInBlock.ret ?_
        | refine AInBlock.same ?_
        | refine AInBlock.other rfl ?_)
    · rename_i hp
      refine bodyQ.one rfl rfl rfl ⟨⟨k, rfl, ?_⟩, rfl⟩
      rw [decide_eq_true (by omega)]
      exact (List.any_eq_true.2 ⟨ks[k], List.getElem_mem hlt, hp⟩).symm
    · rename_i hp
      refine hnext.out _ hlt ⟨fun j hj hjk => ?_, _, rfl, rfl, rfl, rfl, ?_, trivial⟩
      · by_cases e : j = k
        · subst e; exact hp
        · exact hpre j hj (by omega)
      · exact congrArg (fun x => some (CV.int .i64 x)) (wrapAdd (by omega) (by omega))
  · repeat' (first
      | (show AOps _ _ _ _ _ _; first
          | refine AOps.nil ?_
          | refine AOps.plain rfl (W.pure rfl rfl rfl ?_)
          | refine AOps.plain rfl (W.cmpF rfl rfl rfl rfl (decide_eq_false (by omega)) ?_)
          | refine AOps.plain rfl (W.cmp rfl rfl rfl rfl (fun _ => ?_) (fun _ => ?_))
          | refine W.leave rfl rfl rfl rfl ?_
          | refine AOps.take rfl rfl (W.pure rfl rfl rfl ?_)
          | refine AOps.take rfl rfl (W.cmpF rfl rfl rfl rfl (decide_eq_false (by omega)) ?_)
          | refine AOps.take rfl rfl (W.cmp rfl rfl rfl rfl (fun _ => ?_) (fun _ => ?_))
          | refine AOps.plain rfl (W.boxI rfl rfl rfl rfl rfl rfl ?_)
          | refine AOps.plain rfl (W.build rfl rfl rfl rfl rfl rfl rfl ?_)
          | refine AOps.plain rfl (W.alloc rfl rfl rfl rfl rfl ?_)
          | refine AOps.plain rfl (W.storeL rfl rfl rfl rfl rfl rfl rfl rfl rfl ?_)
          | refine AOps.plain rfl (W.buildSlice rfl rfl rfl rfl rfl rfl rfl rfl rfl ?_))
      | (show AWp _ _ _ _ _; first
          | refine AWp.seq ?_
          | refine AWp.region ?_
          | refine AWp.condT rfl ?_
          | refine AWp.condF rfl ?_
          | refine AWp.skip ?_
          | refine AWp.block ?_
          | refine AWp.exit ?_
          | refine AWp.ret ?_)
      | refine AThen.normal ?_
      | refine AThen.exit ?_
      | refine AThen.ret ?_
      | refine AThen.pan ?_
      | refine AInBlock.pan ?_
      | refine AInBlock.normal ?_
      | refine AInBlock.ret ?_
      | refine AInBlock.same ?_
      | refine AInBlock.other rfl ?_)
    refine bodyQ.one rfl rfl rfl ⟨⟨-1, rfl, ?_⟩, rfl⟩
    have h1 : ks.any p = false := by
      rw [List.any_eq_false]
      intro x hx
      obtain ⟨j, hj, rfl⟩ := List.getElem_of_mem hx
      rw [hpre j hj (by omega)]
      simp
    rw [h1]
    rfl


theorem noLs_fun {row : List CV} {len : Nat} {K : FuncId} {cap : List CV} (h : noLs cap = true) : noLs [.islice row len, .func K cap] = true := by
  simp only [noLs, noL, Bool.and_eq_true]; exact ⟨trivial, h, trivial⟩

set_option maxHeartbeats 400000 in
theorem containsN_ok (K : FuncId) (cap : List CV) (ks : List Tree) (p : Tree → Bool) (M : List AObj) (hcap : noLs cap = true) (hlen : ks.length < 281474976710656)
    (hf : ∀ t, t ∈ ks → ACalls K (t.cv :: cap) M (fun r M' => r = .ret (.bool (p t)) ∧ M' = M)) :
    ACalls 21 [.islice (rows ks) ks.length, .func K cap] M (fun r M' => r = .ret (.bool (ks.any p)) ∧ M' = M) := by
  have hcall := indexFuncN_ok K cap ks p M hcap hlen hf
  refine ACalls.of_body Try.func21 rfl rfl rfl ?_
  simp only [Try.ntmps21, frOf]
  repeat' (first
      | (show AOps _ _ _ _ _ _; first
          | refine AOps.nil ?_
          | refine AOps.plain rfl (W.pure rfl rfl rfl ?_)
          | refine AOps.plain rfl (W.cmp rfl rfl rfl rfl (fun _ => ?_) (fun _ => ?_))
          | refine W.leave rfl rfl rfl rfl ?_
          | refine AOps.take rfl rfl (W.pure rfl rfl rfl ?_)
          | refine AOps.take rfl rfl (W.cmp rfl rfl rfl rfl (fun _ => ?_) (fun _ => ?_))
          | refine AOps.plain rfl (W.boxI rfl rfl rfl rfl rfl rfl ?_)
          | refine AOps.plain rfl (W.build rfl rfl rfl rfl rfl rfl rfl ?_)
          | refine AOps.plain rfl (W.alloc rfl rfl rfl rfl rfl ?_)
          | refine AOps.plain rfl (W.storeL rfl rfl rfl rfl rfl rfl rfl rfl rfl ?_)
          | refine AOps.plain rfl (W.buildSlice rfl rfl rfl rfl rfl rfl rfl rfl rfl ?_))
      | (show AWp _ _ _ _ _; first
          | refine AWp.seq ?_
          | refine AWp.region ?_
          | refine AWp.condT rfl ?_
          | refine AWp.condF rfl ?_
          | refine AWp.skip ?_
          | refine AWp.block ?_
          | refine AWp.exit ?_
          | refine AWp.ret ?_)
      | refine AThen.normal ?_
      | refine AThen.exit ?_
      | refine AThen.ret ?_
      | refine AThen.pan ?_
      | refine AInBlock.pan ?_
      | refine AInBlock.normal ?_
      | refine AInBlock.ret ?_
      | refine AInBlock.same ?_
      | refine AInBlock.other rfl ?_)
  refine AOps.plain rfl (AOp.call rfl rfl rfl rfl (noLs_fun hcap) hcall rfl ?_ ?_)
  · rintro c M' ⟨⟨i, hr, hi⟩, rfl⟩
    cases hr
    refine ⟨rfl, ?_⟩
    refine AOps.plain rfl (W.cmp rfl rfl rfl rfl (fun hh => ?_) (fun hh => ?_))
    all_goals
      rw [hi] at hh
      repeat' (first
          | (show AOps _ _ _ _ _ _; first
              | refine AOps.nil ?_
              | refine AOps.plain rfl (W.pure rfl rfl rfl ?_)
              | refine AOps.plain rfl (W.cmp rfl rfl rfl rfl (fun _ => ?_) (fun _ => ?_))
              | refine W.leave rfl rfl rfl rfl ?_
              | refine AOps.take rfl rfl (W.pure rfl rfl rfl ?_)
              | refine AOps.take rfl rfl (W.cmp rfl rfl rfl rfl (fun _ => ?_) (fun _ => ?_))
              | refine AOps.plain rfl (W.boxI rfl rfl rfl rfl rfl rfl ?_)
              | refine AOps.plain rfl (W.build rfl rfl rfl rfl rfl rfl rfl ?_)
              | refine AOps.plain rfl (W.alloc rfl rfl rfl rfl rfl ?_)
              | refine AOps.plain rfl (W.storeL rfl rfl rfl rfl rfl rfl rfl rfl rfl ?_)
              | refine AOps.plain rfl (W.buildSlice rfl rfl rfl rfl rfl rfl rfl rfl rfl ?_))
          | (show AWp _ _ _ _ _; first
              | refine AWp.seq ?_
              | refine AWp.region ?_
              | refine AWp.condT rfl ?_
              | refine AWp.condF rfl ?_
              | refine AWp.skip ?_
              | refine AWp.block ?_
              | refine AWp.exit ?_
              | refine AWp.ret ?_)
          | refine AThen.normal ?_
          | refine AThen.exit ?_
          | refine AThen.ret ?_
          | refine AThen.pan ?_
          | refine AInBlock.pan ?_
          | refine AInBlock.normal ?_
          | refine AInBlock.ret ?_
          | refine AInBlock.same ?_
          | refine AInBlock.other rfl ?_)
      exact bodyQ.one rfl rfl rfl ⟨by rw [hh], rfl⟩
  · rintro c M' ⟨⟨i, hr, hi⟩, rfl⟩
    cases hr

set_option maxHeartbeats 400000 in
theorem containsS_ok (K : FuncId) (cap : List CV) (ks : List ByteArray) (p : ByteArray → Bool) (M : List AObj) (hcap : noLs cap = true) (hlen : ks.length < 281474976710656)
    (hf : ∀ t, t ∈ ks → ACalls K (.str t :: cap) M (fun r M' => r = .ret (.bool (p t)) ∧ M' = M)) :
    ACalls 57 [.islice (strs ks) ks.length, .func K cap] M (fun r M' => r = .ret (.bool (ks.any p)) ∧ M' = M) := by
  have hcall := indexFuncS_ok K cap ks p M hcap hlen hf
  refine ACalls.of_body Try.func57 rfl rfl rfl ?_
  simp only [Try.ntmps57, frOf]
  repeat' (first
      | (show AOps _ _ _ _ _ _; first
          | refine AOps.nil ?_
          | refine AOps.plain rfl (W.pure rfl rfl rfl ?_)
          | refine AOps.plain rfl (W.cmp rfl rfl rfl rfl (fun _ => ?_) (fun _ => ?_))
          | refine W.leave rfl rfl rfl rfl ?_
          | refine AOps.take rfl rfl (W.pure rfl rfl rfl ?_)
          | refine AOps.take rfl rfl (W.cmp rfl rfl rfl rfl (fun _ => ?_) (fun _ => ?_))
          | refine AOps.plain rfl (W.boxI rfl rfl rfl rfl rfl rfl ?_)
          | refine AOps.plain rfl (W.build rfl rfl rfl rfl rfl rfl rfl ?_)
          | refine AOps.plain rfl (W.alloc rfl rfl rfl rfl rfl ?_)
          | refine AOps.plain rfl (W.storeL rfl rfl rfl rfl rfl rfl rfl rfl rfl ?_)
          | refine AOps.plain rfl (W.buildSlice rfl rfl rfl rfl rfl rfl rfl rfl rfl ?_))
      | (show AWp _ _ _ _ _; first
          | refine AWp.seq ?_
          | refine AWp.region ?_
          | refine AWp.condT rfl ?_
          | refine AWp.condF rfl ?_
          | refine AWp.skip ?_
          | refine AWp.block ?_
          | refine AWp.exit ?_
          | refine AWp.ret ?_)
      | refine AThen.normal ?_
      | refine AThen.exit ?_
      | refine AThen.ret ?_
      | refine AThen.pan ?_
      | refine AInBlock.pan ?_
      | refine AInBlock.normal ?_
      | refine AInBlock.ret ?_
      | refine AInBlock.same ?_
      | refine AInBlock.other rfl ?_)
  refine AOps.plain rfl (AOp.call rfl rfl rfl rfl (noLs_fun hcap) hcall rfl ?_ ?_)
  · rintro c M' ⟨⟨i, hr, hi⟩, rfl⟩
    cases hr
    refine ⟨rfl, ?_⟩
    refine AOps.plain rfl (W.cmp rfl rfl rfl rfl (fun hh => ?_) (fun hh => ?_))
    all_goals
      rw [hi] at hh
      repeat' (first
          | (show AOps _ _ _ _ _ _; first
              | refine AOps.nil ?_
              | refine AOps.plain rfl (W.pure rfl rfl rfl ?_)
              | refine AOps.plain rfl (W.cmp rfl rfl rfl rfl (fun _ => ?_) (fun _ => ?_))
              | refine W.leave rfl rfl rfl rfl ?_
              | refine AOps.take rfl rfl (W.pure rfl rfl rfl ?_)
              | refine AOps.take rfl rfl (W.cmp rfl rfl rfl rfl (fun _ => ?_) (fun _ => ?_))
              | refine AOps.plain rfl (W.boxI rfl rfl rfl rfl rfl rfl ?_)
              | refine AOps.plain rfl (W.build rfl rfl rfl rfl rfl rfl rfl ?_)
              | refine AOps.plain rfl (W.alloc rfl rfl rfl rfl rfl ?_)
              | refine AOps.plain rfl (W.storeL rfl rfl rfl rfl rfl rfl rfl rfl rfl ?_)
              | refine AOps.plain rfl (W.buildSlice rfl rfl rfl rfl rfl rfl rfl rfl rfl ?_))
          | (show AWp _ _ _ _ _; first
              | refine AWp.seq ?_
              | refine AWp.region ?_
              | refine AWp.condT rfl ?_
              | refine AWp.condF rfl ?_
              | refine AWp.skip ?_
              | refine AWp.block ?_
              | refine AWp.exit ?_
              | refine AWp.ret ?_)
          | refine AThen.normal ?_
          | refine AThen.exit ?_
          | refine AThen.ret ?_
          | refine AThen.pan ?_
          | refine AInBlock.pan ?_
          | refine AInBlock.normal ?_
          | refine AInBlock.ret ?_
          | refine AInBlock.same ?_
          | refine AInBlock.other rfl ?_)
      exact bodyQ.one rfl rfl rfl ⟨by rw [hh], rfl⟩
  · rintro c M' ⟨⟨i, hr, hi⟩, rfl⟩
    cases hr

end Go.Proofs.Ytceocfancfjdjaa
