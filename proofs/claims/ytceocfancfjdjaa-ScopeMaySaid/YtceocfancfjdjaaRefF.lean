/- (D) How many functions a tree holds; whether two trees are the same. No condition. -/
import Derived.Test.YtceocfancfjdjaaRefE
namespace Go.Proofs.Ytceocfancfjdjaa
open Go Go.RowKit
attribute [local irreducible] ACalls AOps AOp AWp AWpL AThen AInBlock bodyQ seq DOps

def fn1 (k : Int) : Int := if k = 8 then 1 else 0

mutual
def fnsT : Tree → Int
  | .mk k _ _ _ _ ks _ => fn1 k + fnssT ks
def fnssT : List Tree → Int
  | [] => 0
  | t :: r => fnsT t + fnssT r
end

theorem fn1_pos (k : Int) : 0 ≤ fn1 k := by unfold fn1; split <;> omega

mutual
theorem fnsT_pos : ∀ t : Tree, 0 ≤ fnsT t
  | .mk k _ _ _ _ ks _ => by have := fnssT_pos ks; have := fn1_pos k; simp only [fnsT]; omega
theorem fnssT_pos : ∀ l : List Tree, 0 ≤ fnssT l
  | [] => by simp [fnssT]
  | t :: r => by have := fnsT_pos t; have := fnssT_pos r; simp only [fnssT]; omega
end

theorem fnssT_append (a b : List Tree) : fnssT (a ++ b) = fnssT a + fnssT b := by
  induction a with
  | nil => simp [fnssT]
  | cons x r ih => simp only [List.cons_append, fnssT, ih]; omega

theorem fnssT_take (l : List Tree) {k : Nat} (h : k < l.length) : fnssT (l.take (k + 1)) = fnssT (l.take k) + fnsT l[k] := by
  rw [← List.take_append_getElem h, fnssT_append]
  simp [fnssT]

theorem fnssT_split (l : List Tree) (k : Nat) : fnssT l = fnssT (l.take k) + fnssT (l.drop k) := by
  rw [← fnssT_append, List.take_append_drop]

theorem wrapId {k : Int} (h0 : -4611686018427387904 < k) (h1 : k < 4611686018427387904) : IntKind.i64.wrap k = k := by rw [IntKind.wrap_i64]; omega

set_option maxHeartbeats 4000000 in
theorem functions_ok (t : Tree) : t.small → fnsT t < 4611686018427387904 → Ans 12 [t.cv] (.int .i64 (fnsT t)) := by
  induction t using Tree.ind with
  | h k o n s ns ks p ih =>
    intro hsm hhi M
    obtain ⟨hs1, hs2, hs3, hs4, hs5⟩ := hsm
    have hhi' : fn1 k + fnssT ks < 4611686018427387904 := hhi
    have hf1 := fn1_pos k
    refine ACalls.of_body Try.func12 rfl rfl rfl ?_
    simp only [Try.ntmps12, frOf]
    repeat' (first
        | (show DOps _ _ _ _ _ _ _ _ _ _ _; first
            | refine D.end ?_
            | refine D.val (.inl rfl) rfl rfl rfl ?_
            | refine D.leave rfl rfl rfl rfl ?_
            | refine D.val (Wants.take rfl rfl) rfl rfl rfl ?_
            | refine D.cmp rfl (.inl rfl) rfl rfl rfl (fun _ => ?_) (fun _ => ?_)
            | refine D.valO (.inl rfl) rfl rfl rfl rfl ?_
            | refine D.build (.inl rfl) rfl rfl rfl rfl rfl rfl rfl ?_
            | refine D.buildSlice (.inl rfl) rfl rfl rfl rfl rfl rfl rfl rfl rfl ?_
            | refine D.cmp rfl (Wants.take rfl rfl) rfl rfl rfl (fun _ => ?_) (fun _ => ?_)
            | refine D.valO (Wants.take rfl rfl) rfl rfl rfl rfl ?_
            | refine D.build (Wants.take rfl rfl) rfl rfl rfl rfl rfl rfl rfl ?_
            | refine D.buildSlice (Wants.take rfl rfl) rfl rfl rfl rfl rfl rfl rfl rfl rfl ?_)
        | (show AOps _ _ _ _ _ _; first
            | refine AOps.nil ?_
            | refine AOps.plain rfl (W.pure rfl rfl rfl ?_)
            | refine AOps.plain rfl (W.cmp rfl rfl rfl rfl (fun _ => ?_) (fun _ => ?_))
            | refine W.leave rfl rfl rfl rfl ?_
            | refine AOps.take rfl rfl (W.pure rfl rfl rfl ?_)
            | refine AOps.take rfl rfl (W.cmp rfl rfl rfl rfl (fun _ => ?_) (fun _ => ?_))
            | refine AOps.plain rfl (W.boxI rfl rfl rfl rfl rfl rfl ?_)
            | refine AOps.plain rfl (W.build rfl rfl rfl rfl rfl rfl rfl ?_)
            | refine AOps.plain rfl (W.alloc rfl rfl rfl rfl rfl ?_)
            | refine AOps.plain rfl (W.storeL rfl rfl rfl rfl rfl rfl rfl rfl rfl ?_)
            | refine AOps.plain rfl (W.buildSlice rfl rfl rfl rfl rfl rfl rfl rfl rfl ?_))
        | (show AWp _ _ _ _ _; first
            | (show AWp _ _ (.seq (.seq (.region 2 _ _) _) _) _ _; refine AWp.cutS (fun st => ∃ fr, st = { fr := fr, loc := [], M := M, ds := [] } ∧ Sub fr [(1, .iptr (Tree.mk k o n s ns ks p).cells 0), (3, .int .i64 (fn1 k))]) ?_ ?_; rotate_left; (rintro _ ⟨fr, rfl, hsub⟩; refine AWp.mask hsub ?_; clear hsub))
            | refine AWp.seq ?_
            | refine AWp.region ?_
            | refine AWp.condT rfl ?_
            | refine AWp.condF rfl ?_
            | refine AWp.skip ?_
            | refine AWp.block ?_
            | refine AWp.exit ?_
            | refine AWp.ret ?_
            | refine AWp.draw0 (by kernel_rfl) ?_)
        | (show ∃ _, _ ∧ _; first
              | (show ∃ fr, _ = _ ∧ Sub fr [(1, .iptr (Tree.mk k o n s ns ks p).cells 0), (3, .int .i64 (fn1 k))]; exact ⟨_, rfl, rfl, subInt (by clear ih; simp_all [fn1]), trivial⟩))
        | refine AThen.normal ?_
        | refine AThen.exit ?_
        | refine AThen.ret ?_
        | refine AThen.pan ?_
        | refine AInBlock.pan ?_
        | refine AInBlock.normal ?_
        | refine AInBlock.ret ?_
        | refine AInBlock.same ?_
        | refine AInBlock.other rfl ?_)
    refine AWp.loop ?_
    refine AWpL.upto (fun j st => ∃ fr, st = { fr := fr, loc := [], M := M, ds := [] } ∧ Sub fr [(1, .iptr (Tree.mk k o n s ns ks p).cells 0), (3, .int .i64 (fn1 k + fnssT (ks.take j))), (4, .int .i64 (j : Int))]) ks.length ?_ 0 _ (Nat.zero_le _)
      ⟨_, rfl, rfl, subInt (by simp [fnssT]), rfl, trivial⟩
    rintro j st hj ⟨fr, rfl, hsub⟩ hnext
    refine AWp.mask hsub ?_
    clear hsub
    have hsp := fnssT_split ks j
    have hp1 := fnssT_pos (ks.take j)
    have hp2 := fnssT_pos (ks.drop j)
    by_cases hlt : j < ks.length
    · have hst := fnssT_take ks hlt
      have hsp2 := fnssT_split ks (j + 1)
      have hp3 := fnssT_pos (ks.drop (j + 1))
      have hp4 := fnsT_pos ks[j]
      have hcall := ih ks[j] (List.getElem_mem _) (smalls_mem hs5 (List.getElem_mem _)) (by omega) M
      repeat' (first
          | (show DOps _ _ _ _ _ _ _ _ _ _ _; first
              | refine D.end ?_
              | refine D.val (.inl rfl) rfl rfl rfl ?_
              | refine D.leave rfl rfl rfl rfl ?_
              | refine D.val (Wants.take rfl rfl) rfl rfl rfl ?_
              | refine (D.cmpT rfl (.inl rfl) rfl rfl rfl (decide_eq_true (by omega)) ?_)
              | refine D.cmp rfl (.inl rfl) rfl rfl rfl (fun _ => ?_) (fun _ => ?_)
              | refine D.valO (.inl rfl) rfl rfl rfl rfl ?_
              | refine D.build (.inl rfl) rfl rfl rfl rfl rfl rfl rfl ?_
              | refine D.buildSlice (.inl rfl) rfl rfl rfl rfl rfl rfl rfl rfl rfl ?_
              | refine (D.cmpT rfl (Wants.take rfl rfl) rfl rfl rfl (decide_eq_true (by omega)) ?_)
              | refine D.cmp rfl (Wants.take rfl rfl) rfl rfl rfl (fun _ => ?_) (fun _ => ?_)
              | refine D.valO (Wants.take rfl rfl) rfl rfl rfl rfl ?_
              | refine D.build (Wants.take rfl rfl) rfl rfl rfl rfl rfl rfl rfl ?_
              | refine D.buildSlice (Wants.take rfl rfl) rfl rfl rfl rfl rfl rfl rfl rfl rfl ?_)
          | (show AOps _ _ _ _ _ _; first
              | refine AOps.nil ?_
              | refine AOps.plain rfl (W.pure rfl rfl rfl ?_)
              | refine AOps.plain rfl (W.cmpT rfl rfl rfl rfl (decide_eq_true (by omega)) ?_)
              | refine AOps.plain rfl (W.indexAddr rfl rfl rfl rfl rfl rfl (by omega) (by omega) (rows_ne hlt) ?_)
              | refine AOps.plain rfl (W.loadRow rfl rfl rfl rfl (ld_kid hlt) ?_)
              | refine AOps.plain rfl (W.callV rfl rfl rfl rfl rfl hcall (noLs_cv rfl) rfl rfl ?_)
              | refine AOps.plain rfl (W.cmp rfl rfl rfl rfl (fun _ => ?_) (fun _ => ?_))
              | refine W.leave rfl rfl rfl rfl ?_
              | refine AOps.take rfl rfl (W.pure rfl rfl rfl ?_)
              | refine AOps.take rfl rfl (W.cmpT rfl rfl rfl rfl (decide_eq_true (by omega)) ?_)
              | refine AOps.take rfl rfl (W.indexAddr rfl rfl rfl rfl rfl rfl (by omega) (by omega) (rows_ne hlt) ?_)
              | refine AOps.take rfl rfl (W.loadRow rfl rfl rfl rfl (ld_kid hlt) ?_)
              | refine AOps.take rfl rfl (W.callV rfl rfl rfl rfl rfl hcall (noLs_cv rfl) rfl rfl ?_)
              | refine AOps.take rfl rfl (W.cmp rfl rfl rfl rfl (fun _ => ?_) (fun _ => ?_))
              | refine AOps.plain rfl (W.boxI rfl rfl rfl rfl rfl rfl ?_)
              | refine AOps.plain rfl (W.build rfl rfl rfl rfl rfl rfl rfl ?_)
              | refine AOps.plain rfl (W.alloc rfl rfl rfl rfl rfl ?_)
              | refine AOps.plain rfl (W.storeL rfl rfl rfl rfl rfl rfl rfl rfl rfl ?_)
              | refine AOps.plain rfl (W.buildSlice rfl rfl rfl rfl rfl rfl rfl rfl rfl ?_))
          | (show AWp _ _ _ _ _; first
              | refine AWp.seq ?_
              | refine AWp.region ?_
              | refine AWp.condT rfl ?_
              | refine AWp.condF rfl ?_
              | refine AWp.skip ?_
              | refine AWp.block ?_
              | refine AWp.exit ?_
              | refine AWp.ret ?_
              | refine AWp.draw0 (by kernel_rfl) ?_)
          | refine AThen.normal ?_
          | refine AThen.exit ?_
          | refine AThen.ret ?_
          | refine AThen.pan ?_
          | refine AInBlock.pan ?_
          | refine AInBlock.normal ?_
          | refine AInBlock.ret ?_
          | refine AInBlock.same ?_
          | refine AInBlock.other rfl ?_)
      refine hnext.out _ hlt ⟨_, rfl, rfl, subInt (by rw [wrapId (by omega) (by omega)]; omega), subInt (wrapAdd (by omega) (by omega)), trivial⟩
    · repeat' (first
        | (show DOps _ _ _ _ _ _ _ _ _ _ _; first
            | refine D.end ?_
            | refine D.val (.inl rfl) rfl rfl rfl ?_
            | refine D.leave rfl rfl rfl rfl ?_
            | refine D.val (Wants.take rfl rfl) rfl rfl rfl ?_
            | refine (D.cmpF rfl (.inl rfl) rfl rfl rfl (decide_eq_false (by omega)) ?_)
            | refine D.cmp rfl (.inl rfl) rfl rfl rfl (fun _ => ?_) (fun _ => ?_)
            | refine D.valO (.inl rfl) rfl rfl rfl rfl ?_
            | refine D.build (.inl rfl) rfl rfl rfl rfl rfl rfl rfl ?_
            | refine D.buildSlice (.inl rfl) rfl rfl rfl rfl rfl rfl rfl rfl rfl ?_
            | refine (D.cmpF rfl (Wants.take rfl rfl) rfl rfl rfl (decide_eq_false (by omega)) ?_)
            | refine D.cmp rfl (Wants.take rfl rfl) rfl rfl rfl (fun _ => ?_) (fun _ => ?_)
            | refine D.valO (Wants.take rfl rfl) rfl rfl rfl rfl ?_
            | refine D.build (Wants.take rfl rfl) rfl rfl rfl rfl rfl rfl rfl ?_
            | refine D.buildSlice (Wants.take rfl rfl) rfl rfl rfl rfl rfl rfl rfl rfl rfl ?_)
        | (show AOps _ _ _ _ _ _; first
            | refine AOps.nil ?_
            | refine AOps.plain rfl (W.pure rfl rfl rfl ?_)
            | refine AOps.plain rfl (W.cmpF rfl rfl rfl rfl (decide_eq_false (by omega)) ?_)
            | refine AOps.plain rfl (W.cmp rfl rfl rfl rfl (fun _ => ?_) (fun _ => ?_))
            | refine W.leave rfl rfl rfl rfl ?_
            | refine AOps.take rfl rfl (W.pure rfl rfl rfl ?_)
            | refine AOps.take rfl rfl (W.cmpF rfl rfl rfl rfl (decide_eq_false (by omega)) ?_)
            | refine AOps.take rfl rfl (W.cmp rfl rfl rfl rfl (fun _ => ?_) (fun _ => ?_))
            | refine AOps.plain rfl (W.boxI rfl rfl rfl rfl rfl rfl ?_)
            | refine AOps.plain rfl (W.build rfl rfl rfl rfl rfl rfl rfl ?_)
            | refine AOps.plain rfl (W.alloc rfl rfl rfl rfl rfl ?_)
            | refine AOps.plain rfl (W.storeL rfl rfl rfl rfl rfl rfl rfl rfl rfl ?_)
            | refine AOps.plain rfl (W.buildSlice rfl rfl rfl rfl rfl rfl rfl rfl rfl ?_))
        | (show AWp _ _ _ _ _; first
            | refine AWp.seq ?_
            | refine AWp.region ?_
            | refine AWp.condT rfl ?_
            | refine AWp.condF rfl ?_
            | refine AWp.skip ?_
            | refine AWp.block ?_
            | refine AWp.exit ?_
            | refine AWp.ret ?_
            | refine AWp.draw0 (by kernel_rfl) ?_)
        | refine AThen.normal ?_
        | refine AThen.exit ?_
        | refine AThen.ret ?_
        | refine AThen.pan ?_
        | refine AInBlock.pan ?_
        | refine AInBlock.normal ?_
        | refine AInBlock.ret ?_
        | refine AInBlock.same ?_
        | refine AInBlock.other rfl ?_)
      refine bodyQ.one rfl rfl rfl ⟨?_, rfl⟩
      have hj' : j = ks.length := by omega
      subst hj'
      simp only [fnsT, List.take_length]

/-! ### the same tree -/
theorem seq_refl (b : ByteArray) : seq b b = true := by rw [seq_iff]
theorem bne_refl (k : Int) : (k != k) = false := by simp

set_option maxHeartbeats 8000000 in
theorem refSame_ok (t : Tree) : t.small → Ans 20 [t.cv, t.cv] (.bool true) := by
  induction t using Tree.ind with
  | h k o n s ns ks p ih =>
    intro hsm M
    obtain ⟨hs1, hs2, hs3, hs4, hs5⟩ := hsm
    have hsn : (!seq s s) = false := by rw [seq_refl]; rfl
    refine ACalls.of_body Try.func20 rfl rfl rfl ?_
    simp only [Try.ntmps20, frOf]
    repeat' (first
        | (show DOps _ _ _ _ _ _ _ _ _ _ _; first
            | refine D.end ?_
            | refine D.val (.inl rfl) rfl rfl rfl ?_
            | refine D.leave rfl rfl rfl rfl ?_
            | refine D.val (Wants.take rfl rfl) rfl rfl rfl ?_
            | refine (D.cmpF rfl (.inl rfl) rfl rfl rfl (bne_refl _) ?_)
            | refine (D.cmpF rfl (.inl rfl) rfl rfl rfl (hsn) ?_)
            | refine D.cmp rfl (.inl rfl) rfl rfl rfl (fun _ => ?_) (fun _ => ?_)
            | refine D.valO (.inl rfl) rfl rfl rfl rfl ?_
            | refine D.build (.inl rfl) rfl rfl rfl rfl rfl rfl rfl ?_
            | refine D.buildSlice (.inl rfl) rfl rfl rfl rfl rfl rfl rfl rfl rfl ?_
            | refine (D.cmpF rfl (Wants.take rfl rfl) rfl rfl rfl (bne_refl _) ?_)
            | refine (D.cmpF rfl (Wants.take rfl rfl) rfl rfl rfl (hsn) ?_)
            | refine D.cmp rfl (Wants.take rfl rfl) rfl rfl rfl (fun _ => ?_) (fun _ => ?_)
            | refine D.valO (Wants.take rfl rfl) rfl rfl rfl rfl ?_
            | refine D.build (Wants.take rfl rfl) rfl rfl rfl rfl rfl rfl rfl ?_
            | refine D.buildSlice (Wants.take rfl rfl) rfl rfl rfl rfl rfl rfl rfl rfl rfl ?_)
        | (show AOps _ _ _ _ _ _; first
            | refine AOps.nil ?_
            | refine AOps.plain rfl (W.pure rfl rfl rfl ?_)
            | refine AOps.plain rfl (W.cmpF rfl rfl rfl rfl (bne_refl _) ?_)
            | refine AOps.plain rfl (W.cmpF rfl rfl rfl rfl (hsn) ?_)
            | refine AOps.plain rfl (W.cmp rfl rfl rfl rfl (fun _ => ?_) (fun _ => ?_))
            | refine W.leave rfl rfl rfl rfl ?_
            | refine AOps.take rfl rfl (W.pure rfl rfl rfl ?_)
            | refine AOps.take rfl rfl (W.cmpF rfl rfl rfl rfl (bne_refl _) ?_)
            | refine AOps.take rfl rfl (W.cmpF rfl rfl rfl rfl (hsn) ?_)
            | refine AOps.take rfl rfl (W.cmp rfl rfl rfl rfl (fun _ => ?_) (fun _ => ?_))
            | refine AOps.plain rfl (W.boxI rfl rfl rfl rfl rfl rfl ?_)
            | refine AOps.plain rfl (W.build rfl rfl rfl rfl rfl rfl rfl ?_)
            | refine AOps.plain rfl (W.alloc rfl rfl rfl rfl rfl ?_)
            | refine AOps.plain rfl (W.storeL rfl rfl rfl rfl rfl rfl rfl rfl rfl ?_)
            | refine AOps.plain rfl (W.buildSlice rfl rfl rfl rfl rfl rfl rfl rfl rfl ?_))
        | (show AWp _ _ _ _ _; first
            | refine AWp.seq ?_
            | refine AWp.region ?_
            | refine AWp.condT rfl ?_
            | refine AWp.condF rfl ?_
            | refine AWp.skip ?_
            | refine AWp.block ?_
            | refine AWp.exit ?_
            | refine AWp.ret ?_
            | refine AWp.draw0 (by kernel_rfl) ?_)
        | refine AThen.normal ?_
        | refine AThen.exit ?_
        | refine AThen.ret ?_
        | refine AThen.pan ?_
        | refine AInBlock.pan ?_
        | refine AInBlock.normal ?_
        | refine AInBlock.ret ?_
        | refine AInBlock.same ?_
        | refine AInBlock.other rfl ?_)
    refine AWp.loop ?_
    refine AWpL.upto (fun j st => ∃ fr, st = { fr := fr, loc := [], M := M, ds := [] } ∧ Sub fr [(2, .iptr (Tree.mk k o n s ns ks p).cells 0), (3, .iptr (Tree.mk k o n s ns ks p).cells 0), (5, .int .i64 (j : Int))]) ns.length ?_ 0 _ (Nat.zero_le _)
      ⟨_, rfl, rfl, rfl, rfl, trivial⟩
    rintro j st hj ⟨fr, rfl, hsub⟩ hnext
    refine AWp.mask hsub ?_
    clear hsub
    by_cases hlt : j < ns.length
    · have hsj : (!seq ns[j] ns[j]) = false := by rw [seq_refl]; rfl
      repeat' (first
          | (show DOps _ _ _ _ _ _ _ _ _ _ _; first
              | refine D.end ?_
              | refine D.val (.inl rfl) rfl rfl rfl ?_
              | refine D.leave rfl rfl rfl rfl ?_
              | refine D.val (Wants.take rfl rfl) rfl rfl rfl ?_
              | refine (D.cmpT rfl (.inl rfl) rfl rfl rfl (decide_eq_true (by omega)) ?_)
              | refine (D.cmpF rfl (.inl rfl) rfl rfl rfl (hsj) ?_)
              | refine (D.indexAddr (.inl rfl) rfl rfl rfl rfl rfl rfl (by omega) (by omega) (strs_ne hlt) ?_)
              | refine (D.loadRow (.inl rfl) rfl rfl rfl rfl (ld_name hlt) ?_)
              | refine D.cmp rfl (.inl rfl) rfl rfl rfl (fun _ => ?_) (fun _ => ?_)
              | refine D.valO (.inl rfl) rfl rfl rfl rfl ?_
              | refine D.build (.inl rfl) rfl rfl rfl rfl rfl rfl rfl ?_
              | refine D.buildSlice (.inl rfl) rfl rfl rfl rfl rfl rfl rfl rfl rfl ?_
              | refine (D.cmpT rfl (Wants.take rfl rfl) rfl rfl rfl (decide_eq_true (by omega)) ?_)
              | refine (D.cmpF rfl (Wants.take rfl rfl) rfl rfl rfl (hsj) ?_)
              | refine (D.indexAddr (Wants.take rfl rfl) rfl rfl rfl rfl rfl rfl (by omega) (by omega) (strs_ne hlt) ?_)
              | refine (D.loadRow (Wants.take rfl rfl) rfl rfl rfl rfl (ld_name hlt) ?_)
              | refine D.cmp rfl (Wants.take rfl rfl) rfl rfl rfl (fun _ => ?_) (fun _ => ?_)
              | refine D.valO (Wants.take rfl rfl) rfl rfl rfl rfl ?_
              | refine D.build (Wants.take rfl rfl) rfl rfl rfl rfl rfl rfl rfl ?_
              | refine D.buildSlice (Wants.take rfl rfl) rfl rfl rfl rfl rfl rfl rfl rfl rfl ?_)
          | (show AOps _ _ _ _ _ _; first
              | refine AOps.nil ?_
              | refine AOps.plain rfl (W.pure rfl rfl rfl ?_)
              | refine AOps.plain rfl (W.cmpT rfl rfl rfl rfl (decide_eq_true (by omega)) ?_)
              | refine AOps.plain rfl (W.cmpF rfl rfl rfl rfl (hsj) ?_)
              | refine AOps.plain rfl (W.cmp rfl rfl rfl rfl (fun _ => ?_) (fun _ => ?_))
              | refine W.leave rfl rfl rfl rfl ?_
              | refine AOps.take rfl rfl (W.pure rfl rfl rfl ?_)
              | refine AOps.take rfl rfl (W.cmpT rfl rfl rfl rfl (decide_eq_true (by omega)) ?_)
              | refine AOps.take rfl rfl (W.cmpF rfl rfl rfl rfl (hsj) ?_)
              | refine AOps.take rfl rfl (W.cmp rfl rfl rfl rfl (fun _ => ?_) (fun _ => ?_))
              | refine AOps.plain rfl (W.boxI rfl rfl rfl rfl rfl rfl ?_)
              | refine AOps.plain rfl (W.build rfl rfl rfl rfl rfl rfl rfl ?_)
              | refine AOps.plain rfl (W.alloc rfl rfl rfl rfl rfl ?_)
              | refine AOps.plain rfl (W.storeL rfl rfl rfl rfl rfl rfl rfl rfl rfl ?_)
              | refine AOps.plain rfl (W.buildSlice rfl rfl rfl rfl rfl rfl rfl rfl rfl ?_))
          | (show AWp _ _ _ _ _; first
              | refine AWp.seq ?_
              | refine AWp.region ?_
              | refine AWp.condT rfl ?_
              | refine AWp.condF rfl ?_
              | refine AWp.skip ?_
              | refine AWp.block ?_
              | refine AWp.exit ?_
              | refine AWp.ret ?_
              | refine AWp.draw0 (by kernel_rfl) ?_)
          | refine AThen.normal ?_
          | refine AThen.exit ?_
          | refine AThen.ret ?_
          | refine AThen.pan ?_
          | refine AInBlock.pan ?_
          | refine AInBlock.normal ?_
          | refine AInBlock.ret ?_
          | refine AInBlock.same ?_
          | refine AInBlock.other rfl ?_)
      exact hnext.out _ hlt ⟨_, rfl, rfl, rfl, subInt (wrapAdd (by omega) (by omega)), trivial⟩
    · clear hnext
      repeat' (first
          | (show DOps _ _ _ _ _ _ _ _ _ _ _; first
              | refine D.end ?_
              | refine D.val (.inl rfl) rfl rfl rfl ?_
              | refine D.leave rfl rfl rfl rfl ?_
              | refine D.val (Wants.take rfl rfl) rfl rfl rfl ?_
              | refine (D.cmpF rfl (.inl rfl) rfl rfl rfl (decide_eq_false (by omega)) ?_)
              | refine D.cmp rfl (.inl rfl) rfl rfl rfl (fun _ => ?_) (fun _ => ?_)
              | refine D.valO (.inl rfl) rfl rfl rfl rfl ?_
              | refine D.build (.inl rfl) rfl rfl rfl rfl rfl rfl rfl ?_
              | refine D.buildSlice (.inl rfl) rfl rfl rfl rfl rfl rfl rfl rfl rfl ?_
              | refine (D.cmpF rfl (Wants.take rfl rfl) rfl rfl rfl (decide_eq_false (by omega)) ?_)
              | refine D.cmp rfl (Wants.take rfl rfl) rfl rfl rfl (fun _ => ?_) (fun _ => ?_)
              | refine D.valO (Wants.take rfl rfl) rfl rfl rfl rfl ?_
              | refine D.build (Wants.take rfl rfl) rfl rfl rfl rfl rfl rfl rfl ?_
              | refine D.buildSlice (Wants.take rfl rfl) rfl rfl rfl rfl rfl rfl rfl rfl rfl ?_)
          | (show AOps _ _ _ _ _ _; first
              | refine AOps.nil ?_
              | refine AOps.plain rfl (W.pure rfl rfl rfl ?_)
              | refine AOps.plain rfl (W.cmpF rfl rfl rfl rfl (decide_eq_false (by omega)) ?_)
              | refine AOps.plain rfl (W.cmp rfl rfl rfl rfl (fun _ => ?_) (fun _ => ?_))
              | refine W.leave rfl rfl rfl rfl ?_
              | refine AOps.take rfl rfl (W.pure rfl rfl rfl ?_)
              | refine AOps.take rfl rfl (W.cmpF rfl rfl rfl rfl (decide_eq_false (by omega)) ?_)
              | refine AOps.take rfl rfl (W.cmp rfl rfl rfl rfl (fun _ => ?_) (fun _ => ?_))
              | refine AOps.plain rfl (W.boxI rfl rfl rfl rfl rfl rfl ?_)
              | refine AOps.plain rfl (W.build rfl rfl rfl rfl rfl rfl rfl ?_)
              | refine AOps.plain rfl (W.alloc rfl rfl rfl rfl rfl ?_)
              | refine AOps.plain rfl (W.storeL rfl rfl rfl rfl rfl rfl rfl rfl rfl ?_)
              | refine AOps.plain rfl (W.buildSlice rfl rfl rfl rfl rfl rfl rfl rfl rfl ?_))
          | (show AWp _ _ _ _ _; first
              | refine AWp.seq ?_
              | refine AWp.region ?_
              | refine AWp.condT rfl ?_
              | refine AWp.condF rfl ?_
              | refine AWp.skip ?_
              | refine AWp.block ?_
              | refine AWp.exit ?_
              | refine AWp.ret ?_
              | refine AWp.draw0 (by kernel_rfl) ?_)
          | refine AThen.normal ?_
          | refine AThen.exit ?_
          | refine AThen.ret ?_
          | refine AThen.pan ?_
          | refine AInBlock.pan ?_
          | refine AInBlock.normal ?_
          | refine AInBlock.ret ?_
          | refine AInBlock.same ?_
          | refine AInBlock.other rfl ?_)
      refine AWp.loop ?_
      refine AWpL.upto (fun j st => ∃ fr, st = { fr := fr, loc := [], M := M, ds := [] } ∧ Sub fr [(2, .iptr (Tree.mk k o n s ns ks p).cells 0), (3, .iptr (Tree.mk k o n s ns ks p).cells 0), (6, .int .i64 (j : Int))]) ks.length ?_ 0 _ (Nat.zero_le _)
        ⟨_, rfl, rfl, rfl, rfl, trivial⟩
      rintro j st hj ⟨fr, rfl, hsub⟩ hnext
      refine AWp.mask hsub ?_
      clear hsub
      by_cases hlt : j < ks.length
      · have hcall := ih ks[j] (List.getElem_mem _) (smalls_mem hs5 (List.getElem_mem _))
        repeat' (first
            | (show DOps _ _ _ _ _ _ _ _ _ _ _; first
                | refine D.end ?_
                | refine D.val (.inl rfl) rfl rfl rfl ?_
                | refine D.leave rfl rfl rfl rfl ?_
                | refine D.val (Wants.take rfl rfl) rfl rfl rfl ?_
                | refine (D.cmpT rfl (.inl rfl) rfl rfl rfl (decide_eq_true (by omega)) ?_)
                | refine (D.indexAddr (.inl rfl) rfl rfl rfl rfl rfl rfl (by omega) (by omega) (rows_ne hlt) ?_)
                | refine (D.loadRow (.inl rfl) rfl rfl rfl rfl (ld_kid hlt) ?_)
                | refine (D.callV (.inl rfl) rfl rfl rfl rfl rfl hcall (noLs_cv (noLs_cv rfl)) rfl rfl ?_)
                | refine D.cmp rfl (.inl rfl) rfl rfl rfl (fun _ => ?_) (fun _ => ?_)
                | refine D.valO (.inl rfl) rfl rfl rfl rfl ?_
                | refine D.build (.inl rfl) rfl rfl rfl rfl rfl rfl rfl ?_
                | refine D.buildSlice (.inl rfl) rfl rfl rfl rfl rfl rfl rfl rfl rfl ?_
                | refine (D.cmpT rfl (Wants.take rfl rfl) rfl rfl rfl (decide_eq_true (by omega)) ?_)
                | refine (D.indexAddr (Wants.take rfl rfl) rfl rfl rfl rfl rfl rfl (by omega) (by omega) (rows_ne hlt) ?_)
                | refine (D.loadRow (Wants.take rfl rfl) rfl rfl rfl rfl (ld_kid hlt) ?_)
                | refine (D.callV (Wants.take rfl rfl) rfl rfl rfl rfl rfl hcall (noLs_cv (noLs_cv rfl)) rfl rfl ?_)
                | refine D.cmp rfl (Wants.take rfl rfl) rfl rfl rfl (fun _ => ?_) (fun _ => ?_)
                | refine D.valO (Wants.take rfl rfl) rfl rfl rfl rfl ?_
                | refine D.build (Wants.take rfl rfl) rfl rfl rfl rfl rfl rfl rfl ?_
                | refine D.buildSlice (Wants.take rfl rfl) rfl rfl rfl rfl rfl rfl rfl rfl rfl ?_)
            | (show AOps _ _ _ _ _ _; first
                | refine AOps.nil ?_
                | refine AOps.plain rfl (W.pure rfl rfl rfl ?_)
                | refine AOps.plain rfl (W.cmpT rfl rfl rfl rfl (decide_eq_true (by omega)) ?_)
                | refine AOps.plain rfl (W.cmp rfl rfl rfl rfl (fun _ => ?_) (fun _ => ?_))
                | refine W.leave rfl rfl rfl rfl ?_
                | refine AOps.take rfl rfl (W.pure rfl rfl rfl ?_)
                | refine AOps.take rfl rfl (W.cmpT rfl rfl rfl rfl (decide_eq_true (by omega)) ?_)
                | refine AOps.take rfl rfl (W.cmp rfl rfl rfl rfl (fun _ => ?_) (fun _ => ?_))
                | refine AOps.plain rfl (W.boxI rfl rfl rfl rfl rfl rfl ?_)
                | refine AOps.plain rfl (W.build rfl rfl rfl rfl rfl rfl rfl ?_)
                | refine AOps.plain rfl (W.alloc rfl rfl rfl rfl rfl ?_)
                | refine AOps.plain rfl (W.storeL rfl rfl rfl rfl rfl rfl rfl rfl rfl ?_)
                | refine AOps.plain rfl (W.buildSlice rfl rfl rfl rfl rfl rfl rfl rfl rfl ?_))
            | (show AWp _ _ _ _ _; first
                | refine AWp.seq ?_
                | refine AWp.region ?_
                | refine AWp.condT rfl ?_
                | refine AWp.condF rfl ?_
                | refine AWp.skip ?_
                | refine AWp.block ?_
                | refine AWp.exit ?_
                | refine AWp.ret ?_
                | refine AWp.draw0 (by kernel_rfl) ?_)
            | refine AThen.normal ?_
            | refine AThen.exit ?_
            | refine AThen.ret ?_
            | refine AThen.pan ?_
            | refine AInBlock.pan ?_
            | refine AInBlock.normal ?_
            | refine AInBlock.ret ?_
            | refine AInBlock.same ?_
            | refine AInBlock.other rfl ?_)
        exact hnext.out _ hlt ⟨_, rfl, rfl, rfl, subInt (wrapAdd (by omega) (by omega)), trivial⟩
      · repeat' (first
          | (show DOps _ _ _ _ _ _ _ _ _ _ _; first
              | refine D.end ?_
              | refine D.val (.inl rfl) rfl rfl rfl ?_
              | refine D.leave rfl rfl rfl rfl ?_
              | refine D.val (Wants.take rfl rfl) rfl rfl rfl ?_
              | refine (D.cmpF rfl (.inl rfl) rfl rfl rfl (decide_eq_false (by omega)) ?_)
              | refine D.cmp rfl (.inl rfl) rfl rfl rfl (fun _ => ?_) (fun _ => ?_)
              | refine D.valO (.inl rfl) rfl rfl rfl rfl ?_
              | refine D.build (.inl rfl) rfl rfl rfl rfl rfl rfl rfl ?_
              | refine D.buildSlice (.inl rfl) rfl rfl rfl rfl rfl rfl rfl rfl rfl ?_
              | refine (D.cmpF rfl (Wants.take rfl rfl) rfl rfl rfl (decide_eq_false (by omega)) ?_)
              | refine D.cmp rfl (Wants.take rfl rfl) rfl rfl rfl (fun _ => ?_) (fun _ => ?_)
              | refine D.valO (Wants.take rfl rfl) rfl rfl rfl rfl ?_
              | refine D.build (Wants.take rfl rfl) rfl rfl rfl rfl rfl rfl rfl ?_
              | refine D.buildSlice (Wants.take rfl rfl) rfl rfl rfl rfl rfl rfl rfl rfl rfl ?_)
          | (show AOps _ _ _ _ _ _; first
              | refine AOps.nil ?_
              | refine AOps.plain rfl (W.pure rfl rfl rfl ?_)
              | refine AOps.plain rfl (W.cmpF rfl rfl rfl rfl (decide_eq_false (by omega)) ?_)
              | refine AOps.plain rfl (W.cmp rfl rfl rfl rfl (fun _ => ?_) (fun _ => ?_))
              | refine W.leave rfl rfl rfl rfl ?_
              | refine AOps.take rfl rfl (W.pure rfl rfl rfl ?_)
              | refine AOps.take rfl rfl (W.cmpF rfl rfl rfl rfl (decide_eq_false (by omega)) ?_)
              | refine AOps.take rfl rfl (W.cmp rfl rfl rfl rfl (fun _ => ?_) (fun _ => ?_))
              | refine AOps.plain rfl (W.boxI rfl rfl rfl rfl rfl rfl ?_)
              | refine AOps.plain rfl (W.build rfl rfl rfl rfl rfl rfl rfl ?_)
              | refine AOps.plain rfl (W.alloc rfl rfl rfl rfl rfl ?_)
              | refine AOps.plain rfl (W.storeL rfl rfl rfl rfl rfl rfl rfl rfl rfl ?_)
              | refine AOps.plain rfl (W.buildSlice rfl rfl rfl rfl rfl rfl rfl rfl rfl ?_))
          | (show AWp _ _ _ _ _; first
              | refine AWp.seq ?_
              | refine AWp.region ?_
              | refine AWp.condT rfl ?_
              | refine AWp.condF rfl ?_
              | refine AWp.skip ?_
              | refine AWp.block ?_
              | refine AWp.exit ?_
              | refine AWp.ret ?_
              | refine AWp.draw0 (by kernel_rfl) ?_)
          | refine AThen.normal ?_
          | refine AThen.exit ?_
          | refine AThen.ret ?_
          | refine AThen.pan ?_
          | refine AInBlock.pan ?_
          | refine AInBlock.normal ?_
          | refine AInBlock.ret ?_
          | refine AInBlock.same ?_
          | refine AInBlock.other rfl ?_)
        refine bodyQ.one rfl rfl rfl ⟨?_, rfl⟩
        rfl

end Go.Proofs.Ytceocfancfjdjaa
