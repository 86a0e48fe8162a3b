/- (D) A tree with each name turned to another one. No condition. -/
import Derived.Test.YtceocfancfjdjaaDef4
namespace Go.Proofs.Ytceocfancfjdjaa
open Go Go.RowKit
attribute [local irreducible] ACalls AOps AOp AWp AWpL AThen AInBlock bodyQ seq DOps

def qs (b : ByteArray) : ByteArray := (⟨#[113]⟩ : ByteArray) ++ b

mutual
def turnT : Tree → Tree
  | .mk k o n s ns ks p => .mk k o n (if k = 5 ∨ k = 21 ∨ k = 22 then qs s else s) (if k = 8 then ns.map qs else ns) (turnsT ks) p
def turnsT : List Tree → List Tree
  | [] => []
  | t :: r => turnT t :: turnsT r
end

theorem turnsT_map (l : List Tree) : turnsT l = l.map turnT := by
  induction l with
  | nil => rfl
  | cons t r ih => simp [turnsT, ih]

def zero25 : List CV := [.int .i64 0, .int .i64 0, .int .i64 0, .str nothing, .nilslice, .nilslice, .int .i64 0]

theorem shadow3 {a b : Nat} {x' y' y : AObj} {r : List (Nat × AObj)} (t : Nat) : look ((a, x') :: (b, y') :: r) t = look ((a, x') :: (b, y') :: (a, y) :: r) t := by
  simp only [look_cons]
  by_cases h1 : a = t <;> by_cases h2 : b = t <;> simp [h1, h2]

theorem shadow4 {a b : Nat} {x' y' x y : AObj} {r : List (Nat × AObj)} (t : Nat) : look ((a, x') :: (b, y') :: r) t = look ((a, x') :: (b, y') :: (a, y) :: (b, x) :: r) t := by
  simp only [look_cons]
  by_cases h1 : a = t <;> by_cases h2 : b = t <;> simp [h1, h2]

theorem shadow2 {a : Nat} {x' x : AObj} {r : List (Nat × AObj)} (t : Nat) : look ((a, x') :: r) t = look ((a, x') :: (a, x) :: r) t := by
  simp only [look_cons]
  by_cases h1 : a = t <;> simp [h1]

theorem strs_snoc (l : List ByteArray) (x : ByteArray) : strs l ++ [.str x] = strs (l ++ [x]) := by simp [strs]

theorem take_snoc {α : Type} {l : List α} {j : Nat} (h : j < l.length) : l.take j ++ [l[j]] = l.take (j + 1) := by
  rw [List.take_succ_eq_append_getElem h]

/-- What is left of the names' row is frozen with the frame. -/
def FZ (M : List AObj) (rest : List (Nat × AObj)) (nmv : CV) (ns' : List ByteArray) : Prop :=
  ∀ fr X, (∀ t, t = 44 ∨ t = 54 → look X t = look rest t) → Freeze { fr := fr, loc := X, M := M, ds := [] } nmv (.islice (strs ns') ns'.length)

set_option maxHeartbeats 16000000 in
theorem turned_ok (t : Tree) : t.small → t.roomy → Ans 7 [t.cv] (turnT t).cv := by
  induction t using Tree.ind with
  | h k o n s ns ks p ih =>
    intro hsm hro M
    have hih : ∀ t, t ∈ ks → Ans 7 [t.cv] (turnT t).cv := fun t ht => ih t ht (smalls_mem hsm.2.2.2.2 ht) (roomies_mem hro.2.2 ht)
    have hs1 : s.size < 281474976710656 := hsm.1
    have hn1 := hsm.2.2.2.1
    have hn2 : ns.length ≤ 1000000 := hro.1
    have hk2 : ks.length ≤ 1000000 := hro.2.1
    clear ih
    obtain ⟨s', hs'⟩ : ∃ s', s' = (if k = 5 ∨ k = 21 ∨ k = 22 then qs s else s) := ⟨_, rfl⟩
    obtain ⟨ns', hns'⟩ : ∃ ns', ns' = (if k = 8 then ns.map qs else ns) := ⟨_, rfl⟩
    have hfin : turnT (Tree.mk k o n s ns ks p) = .mk k o n s' ns' (turnsT ks) p := by rw [hs', hns', turnT]
    rw [hfin]
    refine ACalls.of_body Try.func7 rfl rfl rfl ?_
    simp only [Try.ntmps7, frOf]
    repeat' (first
        | (show DOps _ _ _ _ _ _ _ _ _ _ _; first
            | refine D.end ?_
            | refine D.val (.inl rfl) rfl rfl rfl ?_
            | refine D.leave rfl rfl rfl rfl ?_
            | refine D.val (Wants.take rfl rfl) rfl rfl rfl ?_
            | refine D.cmp rfl (.inl rfl) rfl rfl rfl (fun _ => ?_) (fun _ => ?_)
            | refine D.valO (.inl rfl) rfl rfl rfl rfl ?_
            | refine D.build (.inl rfl) rfl rfl rfl rfl rfl rfl rfl ?_
            | refine D.buildSlice (.inl rfl) rfl rfl rfl rfl rfl rfl rfl rfl rfl ?_
            | refine D.cmp rfl (Wants.take rfl rfl) rfl rfl rfl (fun _ => ?_) (fun _ => ?_)
            | refine D.valO (Wants.take rfl rfl) rfl rfl rfl rfl ?_
            | refine D.build (Wants.take rfl rfl) rfl rfl rfl rfl rfl rfl rfl ?_
            | refine D.buildSlice (Wants.take rfl rfl) rfl rfl rfl rfl rfl rfl rfl rfl rfl ?_)
        | (show AOps _ _ _ _ _ _; first
            | refine AOps.nil ?_
            | refine AOps.plain rfl (W.pure rfl rfl rfl ?_)
            | refine AOps.plain rfl (W.concat rfl rfl rfl rfl rfl (by show 1 + s.size ≤ _; omega) ?_)
            | refine AOps.plain rfl (W.cmp rfl rfl rfl rfl (fun _ => ?_) (fun _ => ?_))
            | refine W.leave rfl rfl rfl rfl ?_
            | refine AOps.take rfl rfl (W.pure rfl rfl rfl ?_)
            | refine AOps.take rfl rfl (W.concat rfl rfl rfl rfl rfl (by show 1 + s.size ≤ _; omega) ?_)
            | refine AOps.take rfl rfl (W.cmp rfl rfl rfl rfl (fun _ => ?_) (fun _ => ?_))
            | refine AOps.plain rfl (W.boxI rfl rfl rfl rfl rfl rfl ?_)
            | refine AOps.plain rfl (W.build rfl rfl rfl rfl rfl rfl rfl ?_)
            | refine AOps.plain rfl (W.alloc rfl rfl rfl rfl rfl ?_)
            | refine AOps.plain rfl (W.storeL rfl rfl rfl rfl rfl rfl rfl rfl rfl ?_)
            | refine AOps.plain rfl (W.buildSlice rfl rfl rfl rfl rfl rfl rfl rfl rfl ?_))
        | (show AWp _ _ _ _ _; first
            | (show AWp _ _ (.seq (.seq (.region 2 _ _) _) _) _ _; refine AWp.cutS (fun st => ∃ fr loc, st = { fr := fr, loc := loc, M := M, ds := [] } ∧ Sub fr [(1, .iptr (Tree.mk k o n s ns ks p).cells 0), (2, .ptr (.l 2) 0 0), (3, .ptr (.l 3) 0 0)] ∧ dd [] loc = [(3, .box [.int .i64 k, .int .i64 o, .int .i64 n, .str s', .islice (strs ns) ns.length, .islice (rows ks) ks.length, .int .i64 p]), (2, .box zero25)]) ?_ ?_)
            | refine AWp.seq ?_
            | refine AWp.region ?_
            | refine AWp.condT rfl ?_
            | refine AWp.condF rfl ?_
            | refine AWp.skip ?_
            | refine AWp.block ?_
            | refine AWp.exit ?_
            | refine AWp.ret ?_
            | refine AWp.draw0 (by kernel_rfl) ?_)
        | refine AThen.normal ?_
        | refine AThen.exit ?_
        | refine AThen.ret ?_
        | refine AThen.pan ?_
        | refine AInBlock.pan ?_
        | refine AInBlock.normal ?_
        | refine AInBlock.ret ?_
        | refine AInBlock.same ?_
        | refine AInBlock.other rfl ?_)
    -- the name
    · rename_i h1
      have e : s' = qs s := by rw [hs', if_pos (.inl (eq_of_beq h1))]
      exact ⟨_, _, rfl, ⟨rfl, rfl, rfl, trivial⟩, by rw [e]; rfl⟩
    · rename_i h1 h2
      have e : s' = qs s := by rw [hs', if_pos (.inr (.inl (eq_of_beq h2)))]
      exact ⟨_, _, rfl, ⟨rfl, rfl, rfl, trivial⟩, by rw [e]; rfl⟩
    · rename_i h1 h2 h3
      have e : s' = qs s := by rw [hs', if_pos (.inr (.inr (eq_of_beq h3)))]
      exact ⟨_, _, rfl, ⟨rfl, rfl, rfl, trivial⟩, by rw [e]; rfl⟩
    · rename_i h1 h2 h3
      have e : s' = s := by
        rw [hs', if_neg]
        rintro (rfl | rfl | rfl)
        · simp at h1
        · simp at h2
        · simp at h3
      exact ⟨_, _, rfl, ⟨rfl, rfl, rfl, trivial⟩, by rw [e]; rfl⟩
    -- the names
    rintro _ ⟨fr, loc, rfl, hsub, hdd⟩
    refine AWp.tidy hsub hdd ?_
    clear hsub hdd hs' hfin
    repeat' (first
        | (show DOps _ _ _ _ _ _ _ _ _ _ _; first
            | refine D.end ?_
            | refine D.val (.inl rfl) rfl rfl rfl ?_
            | refine D.leave rfl rfl rfl rfl ?_
            | refine D.val (Wants.take rfl rfl) rfl rfl rfl ?_
            | refine D.cmp rfl (.inl rfl) rfl rfl rfl (fun _ => ?_) (fun _ => ?_)
            | refine D.valO (.inl rfl) rfl rfl rfl rfl ?_
            | refine D.build (.inl rfl) rfl rfl rfl rfl rfl rfl rfl ?_
            | refine D.buildSlice (.inl rfl) rfl rfl rfl rfl rfl rfl rfl rfl rfl ?_
            | refine D.cmp rfl (Wants.take rfl rfl) rfl rfl rfl (fun _ => ?_) (fun _ => ?_)
            | refine D.valO (Wants.take rfl rfl) rfl rfl rfl rfl ?_
            | refine D.build (Wants.take rfl rfl) rfl rfl rfl rfl rfl rfl rfl ?_
            | refine D.buildSlice (Wants.take rfl rfl) rfl rfl rfl rfl rfl rfl rfl rfl rfl ?_)
        | (show AOps _ _ _ _ _ _; first
            | refine AOps.nil ?_
            | refine AOps.plain rfl (W.pure rfl rfl rfl ?_)
            | refine AOps.plain rfl (W.cmp rfl rfl rfl rfl (fun _ => ?_) (fun _ => ?_))
            | refine W.leave rfl rfl rfl rfl ?_
            | refine AOps.take rfl rfl (W.pure rfl rfl rfl ?_)
            | refine AOps.take rfl rfl (W.cmp rfl rfl rfl rfl (fun _ => ?_) (fun _ => ?_))
            | refine AOps.plain rfl (W.boxI rfl rfl rfl rfl rfl rfl ?_)
            | refine AOps.plain rfl (W.build rfl rfl rfl rfl rfl rfl rfl ?_)
            | refine AOps.plain rfl (W.alloc rfl rfl rfl rfl rfl ?_)
            | refine AOps.plain rfl (W.storeL rfl rfl rfl rfl rfl rfl rfl rfl rfl ?_)
            | refine AOps.plain rfl (W.buildSlice rfl rfl rfl rfl rfl rfl rfl rfl rfl ?_))
        | (show AWp _ _ _ _ _; first
            | (show AWp _ _ (.seq (.seq (.region 5 _ _) _) _) _ _; refine AWp.cutS (fun st => ∃ fr loc nmv rest, st = { fr := fr, loc := loc, M := M, ds := [] } ∧ Sub fr [(1, .iptr (Tree.mk k o n s ns ks p).cells 0), (2, .ptr (.l 2) 0 0), (3, .ptr (.l 3) 0 0)] ∧ (∀ t, look ((3, .box [.int .i64 k, .int .i64 o, .int .i64 n, .str s', nmv, .islice (rows ks) ks.length, .int .i64 p]) :: rest) t = look loc t) ∧ look rest 2 = some (.box zero25) ∧ look rest 73 = none ∧ nmv.one = true ∧ FZ M rest nmv ns') ?_ ?_)
            | refine AWp.seq ?_
            | refine AWp.region ?_
            | refine AWp.condT rfl ?_
            | refine AWp.condF rfl ?_
            | refine AWp.skip ?_
            | refine AWp.block ?_
            | refine AWp.exit ?_
            | refine AWp.ret ?_
            | refine AWp.draw0 (by kernel_rfl) ?_)
        | refine AThen.normal ?_
        | refine AThen.exit ?_
        | refine AThen.ret ?_
        | refine AThen.pan ?_
        | refine AInBlock.pan ?_
        | refine AInBlock.normal ?_
        | refine AInBlock.ret ?_
        | refine AInBlock.same ?_
        | refine AInBlock.other rfl ?_)
    · refine AWp.tidy (fr' := [(1, .iptr (Tree.mk k o n s ns ks p).cells 0), (2, .ptr (.l 2) 0 0), (3, .ptr (.l 3) 0 0), (4, .int .i64 0)]) ⟨rfl, rfl, rfl, rfl, trivial⟩ (loc' := [(3, .box [.int .i64 k, .int .i64 o, .int .i64 n, .str s', .nilslice, .islice (rows ks) ks.length, .int .i64 p]), (2, .box zero25)]) rfl ?_
      refine AWp.loop ?_
      by_cases h8 : k = 8
      · have e8 : (k == 8) = true := by rw [beq_iff_eq]; exact h8
        have e : (ns.map qs) = ns' := by rw [hns', if_pos h8]
        subst e
        refine AWpL.upto (fun j st => (j = 0 ∧ ∃ fr, st = { fr := fr, loc := [(3, .box [.int .i64 k, .int .i64 o, .int .i64 n, .str s', .nilslice, .islice (rows ks) ks.length, .int .i64 p]), (2, .box zero25)], M := M, ds := [] } ∧ Sub fr [(1, .iptr (Tree.mk k o n s ns ks p).cells 0), (2, .ptr (.l 2) 0 0), (3, .ptr (.l 3) 0 0), (4, .int .i64 (j : Int))]) ∨
          (0 < j ∧ ∃ fr v, st = { fr := fr, loc := [(3, .box [.int .i64 k, .int .i64 o, .int .i64 n, .str s', .mslice (.l 44) v j, .islice (rows ks) ks.length, .int .i64 p]), (44, .arr v 9 1 (strs ((ns.map qs).take j))), (2, .box zero25)], M := M, ds := [] } ∧ Sub fr [(1, .iptr (Tree.mk k o n s ns ks p).cells 0), (2, .ptr (.l 2) 0 0), (3, .ptr (.l 3) 0 0), (4, .int .i64 (j : Int))]))
          ns.length ?_ 0 _ (Nat.zero_le _) (.inl ⟨rfl, _, rfl, rfl, rfl, rfl, rfl, trivial⟩)
        rintro j st hj hst hnext
        by_cases hlt : j < ns.length
        · have hb := hn1 ns[j] (List.getElem_mem hlt)
          have hlt2 : j < (ns.map qs).length := by simpa using hlt
          have hsnoc : strs ((ns.map qs).take j) ++ [.str (qs ns[j])] = strs ((ns.map qs).take (j + 1)) := by rw [strs_snoc, ← take_snoc hlt2]; try simp
          have hrl : (strs ((ns.map qs).take j)).length = j * 1 := by rw [strs_length, List.length_take, Nat.min_eq_left (by omega), Nat.mul_one]
          rcases hst with ⟨hj0, fr, rfl, hsub⟩ | ⟨hjp, fr, v, rfl, hsub⟩
          · refine AWp.mask hsub ?_
            clear hsub
            subst hj0
            have hs0 : strs ((ns.map qs).take 1) = [.str (qs ns[0])] := by rw [← hsnoc]; simp [strs]
            repeat' (first
                | (show DOps _ _ _ _ _ _ _ _ _ _ _; first
                    | refine D.end ?_
                    | refine D.val (.inl rfl) rfl rfl rfl ?_
                    | refine D.leave rfl rfl rfl rfl ?_
                    | refine D.val (Wants.take rfl rfl) rfl rfl rfl ?_
                    | refine (D.cmpT rfl (.inl rfl) rfl rfl rfl (decide_eq_true (by omega)) ?_)
                    | refine (D.cmpT rfl (.inl rfl) rfl rfl rfl (e8) ?_)
                    | refine (D.loadBox (.inl rfl) (by kernel_rfl) rfl rfl rfl rfl rfl rfl ?_)
                    | refine (D.indexAddr (.inl rfl) rfl rfl rfl rfl rfl rfl (by omega) (by omega) (strs_ne hlt) ?_)
                    | refine (D.loadRow (.inl rfl) rfl rfl rfl rfl (ld_name hlt) ?_)
                    | refine (D.concat (.inl rfl) rfl rfl rfl rfl rfl (by show 1 + _ ≤ _; omega) ?_)
                    | refine (D.appendNil (.inl rfl) (by kernel_rfl) rfl rfl rfl rfl rfl rfl (Nat.succ_pos _) (by decide) (by decide) rfl rfl rfl ?_)
                    | refine (D.storeL (.inl rfl) (by kernel_rfl) rfl rfl rfl rfl rfl rfl rfl rfl rfl rfl ?_)
                    | refine D.cmp rfl (.inl rfl) rfl rfl rfl (fun _ => ?_) (fun _ => ?_)
                    | refine D.valO (.inl rfl) rfl rfl rfl rfl ?_
                    | refine D.build (.inl rfl) rfl rfl rfl rfl rfl rfl rfl ?_
                    | refine D.buildSlice (.inl rfl) rfl rfl rfl rfl rfl rfl rfl rfl rfl ?_
                    | refine (D.cmpT rfl (Wants.take rfl rfl) rfl rfl rfl (decide_eq_true (by omega)) ?_)
                    | refine (D.cmpT rfl (Wants.take rfl rfl) rfl rfl rfl (e8) ?_)
                    | refine (D.loadBox (Wants.take rfl rfl) (by kernel_rfl) rfl rfl rfl rfl rfl rfl ?_)
                    | refine (D.indexAddr (Wants.take rfl rfl) rfl rfl rfl rfl rfl rfl (by omega) (by omega) (strs_ne hlt) ?_)
                    | refine (D.loadRow (Wants.take rfl rfl) rfl rfl rfl rfl (ld_name hlt) ?_)
                    | refine (D.concat (Wants.take rfl rfl) rfl rfl rfl rfl rfl (by show 1 + _ ≤ _; omega) ?_)
                    | refine (D.appendNil (Wants.take rfl rfl) (by kernel_rfl) rfl rfl rfl rfl rfl rfl (Nat.succ_pos _) (by decide) (by decide) rfl rfl rfl ?_)
                    | refine (D.storeL (Wants.take rfl rfl) (by kernel_rfl) rfl rfl rfl rfl rfl rfl rfl rfl rfl rfl ?_)
                    | refine D.cmp rfl (Wants.take rfl rfl) rfl rfl rfl (fun _ => ?_) (fun _ => ?_)
                    | refine D.valO (Wants.take rfl rfl) rfl rfl rfl rfl ?_
                    | refine D.build (Wants.take rfl rfl) rfl rfl rfl rfl rfl rfl rfl ?_
                    | refine D.buildSlice (Wants.take rfl rfl) rfl rfl rfl rfl rfl rfl rfl rfl rfl ?_)
                | (show AOps _ _ _ _ _ _; first
                    | refine AOps.nil ?_
                    | refine AOps.plain rfl (W.pure rfl rfl rfl ?_)
                    | refine AOps.plain rfl (W.cmpT rfl rfl rfl rfl (decide_eq_true (by omega)) ?_)
                    | refine AOps.plain rfl (W.cmpT rfl rfl rfl rfl (e8) ?_)
                    | refine AOps.plain rfl (W.cmp rfl rfl rfl rfl (fun _ => ?_) (fun _ => ?_))
                    | refine W.leave rfl rfl rfl rfl ?_
                    | refine AOps.take rfl rfl (W.pure rfl rfl rfl ?_)
                    | refine AOps.take rfl rfl (W.cmpT rfl rfl rfl rfl (decide_eq_true (by omega)) ?_)
                    | refine AOps.take rfl rfl (W.cmpT rfl rfl rfl rfl (e8) ?_)
                    | refine AOps.take rfl rfl (W.cmp rfl rfl rfl rfl (fun _ => ?_) (fun _ => ?_))
                    | refine AOps.plain rfl (W.boxI rfl rfl rfl rfl rfl rfl ?_)
                    | refine AOps.plain rfl (W.build rfl rfl rfl rfl rfl rfl rfl ?_)
                    | refine AOps.plain rfl (W.alloc rfl rfl rfl rfl rfl ?_)
                    | refine AOps.plain rfl (W.storeL rfl rfl rfl rfl rfl rfl rfl rfl rfl ?_)
                    | refine AOps.plain rfl (W.buildSlice rfl rfl rfl rfl rfl rfl rfl rfl rfl ?_))
                | (show AWp _ _ _ _ _; first
                    | refine AWp.drawE [9, 11] (by kernel_rfl) (by kernel_rfl) ?_
                    | refine AWp.seq ?_
                    | refine AWp.region ?_
                    | refine AWp.condT rfl ?_
                    | refine AWp.condF rfl ?_
                    | refine AWp.skip ?_
                    | refine AWp.block ?_
                    | refine AWp.exit ?_
                    | refine AWp.ret ?_
                    | refine AWp.draw0 (by kernel_rfl) ?_)
                | refine AThen.normal ?_
                | refine AThen.exit ?_
                | refine AThen.ret ?_
                | refine AThen.pan ?_
                | refine AInBlock.pan ?_
                | refine AInBlock.normal ?_
                | refine AInBlock.ret ?_
                | refine AInBlock.same ?_
                | refine AInBlock.other rfl ?_)
            exact AWpL.tidy (fr' := [(1, .iptr (Tree.mk k o n s ns ks p).cells 0), (2, .ptr (.l 2) 0 0), (3, .ptr (.l 3) 0 0), (4, .int .i64 ((0 + 1 : Nat) : Int))]) ⟨rfl, rfl, rfl, subInt (wrapAdd (by omega) (by omega)), trivial⟩ rfl (hnext.out _ hlt (.inr ⟨by omega, _, 0, by rw [hs0]; rfl, rfl, rfl, rfl, rfl, trivial⟩))
          · refine AWp.mask hsub ?_
            clear hsub
            repeat' (first
                | (show DOps _ _ _ _ _ _ _ _ _ _ _; first
                    | refine D.end ?_
                    | refine D.val (.inl rfl) rfl rfl rfl ?_
                    | refine D.leave rfl rfl rfl rfl ?_
                    | refine D.val (Wants.take rfl rfl) rfl rfl rfl ?_
                    | refine (D.cmpT rfl (.inl rfl) rfl rfl rfl (decide_eq_true (by omega)) ?_)
                    | refine (D.cmpT rfl (.inl rfl) rfl rfl rfl (e8) ?_)
                    | refine (D.loadBox (.inl rfl) (by kernel_rfl) rfl rfl rfl rfl rfl rfl ?_)
                    | refine (D.indexAddr (.inl rfl) rfl rfl rfl rfl rfl rfl (by omega) (by omega) (strs_ne hlt) ?_)
                    | refine (D.loadRow (.inl rfl) rfl rfl rfl rfl (ld_name hlt) ?_)
                    | refine (D.concat (.inl rfl) rfl rfl rfl rfl rfl (by show 1 + _ ≤ _; omega) ?_)
                    | refine (D.appendL (.inl rfl) (by kernel_rfl) rfl rfl rfl rfl rfl hrl rfl rfl rfl hsnoc rfl (Nat.succ_pos _) (by omega) (by omega) rfl rfl ?_)
                    | refine (D.storeL (.inl rfl) (by kernel_rfl) rfl rfl rfl rfl rfl rfl rfl rfl rfl rfl ?_)
                    | refine D.cmp rfl (.inl rfl) rfl rfl rfl (fun _ => ?_) (fun _ => ?_)
                    | refine D.valO (.inl rfl) rfl rfl rfl rfl ?_
                    | refine D.build (.inl rfl) rfl rfl rfl rfl rfl rfl rfl ?_
                    | refine D.buildSlice (.inl rfl) rfl rfl rfl rfl rfl rfl rfl rfl rfl ?_
                    | refine (D.cmpT rfl (Wants.take rfl rfl) rfl rfl rfl (decide_eq_true (by omega)) ?_)
                    | refine (D.cmpT rfl (Wants.take rfl rfl) rfl rfl rfl (e8) ?_)
                    | refine (D.loadBox (Wants.take rfl rfl) (by kernel_rfl) rfl rfl rfl rfl rfl rfl ?_)
                    | refine (D.indexAddr (Wants.take rfl rfl) rfl rfl rfl rfl rfl rfl (by omega) (by omega) (strs_ne hlt) ?_)
                    | refine (D.loadRow (Wants.take rfl rfl) rfl rfl rfl rfl (ld_name hlt) ?_)
                    | refine (D.concat (Wants.take rfl rfl) rfl rfl rfl rfl rfl (by show 1 + _ ≤ _; omega) ?_)
                    | refine (D.appendL (Wants.take rfl rfl) (by kernel_rfl) rfl rfl rfl rfl rfl hrl rfl rfl rfl hsnoc rfl (Nat.succ_pos _) (by omega) (by omega) rfl rfl ?_)
                    | refine (D.storeL (Wants.take rfl rfl) (by kernel_rfl) rfl rfl rfl rfl rfl rfl rfl rfl rfl rfl ?_)
                    | refine D.cmp rfl (Wants.take rfl rfl) rfl rfl rfl (fun _ => ?_) (fun _ => ?_)
                    | refine D.valO (Wants.take rfl rfl) rfl rfl rfl rfl ?_
                    | refine D.build (Wants.take rfl rfl) rfl rfl rfl rfl rfl rfl rfl ?_
                    | refine D.buildSlice (Wants.take rfl rfl) rfl rfl rfl rfl rfl rfl rfl rfl rfl ?_)
                | (show AOps _ _ _ _ _ _; first
                    | refine AOps.nil ?_
                    | refine AOps.plain rfl (W.pure rfl rfl rfl ?_)
                    | refine AOps.plain rfl (W.cmpT rfl rfl rfl rfl (decide_eq_true (by omega)) ?_)
                    | refine AOps.plain rfl (W.cmpT rfl rfl rfl rfl (e8) ?_)
                    | refine AOps.plain rfl (W.cmp rfl rfl rfl rfl (fun _ => ?_) (fun _ => ?_))
                    | refine W.leave rfl rfl rfl rfl ?_
                    | refine AOps.take rfl rfl (W.pure rfl rfl rfl ?_)
                    | refine AOps.take rfl rfl (W.cmpT rfl rfl rfl rfl (decide_eq_true (by omega)) ?_)
                    | refine AOps.take rfl rfl (W.cmpT rfl rfl rfl rfl (e8) ?_)
                    | refine AOps.take rfl rfl (W.cmp rfl rfl rfl rfl (fun _ => ?_) (fun _ => ?_))
                    | refine AOps.plain rfl (W.boxI rfl rfl rfl rfl rfl rfl ?_)
                    | refine AOps.plain rfl (W.build rfl rfl rfl rfl rfl rfl rfl ?_)
                    | refine AOps.plain rfl (W.alloc rfl rfl rfl rfl rfl ?_)
                    | refine AOps.plain rfl (W.storeL rfl rfl rfl rfl rfl rfl rfl rfl rfl ?_)
                    | refine AOps.plain rfl (W.buildSlice rfl rfl rfl rfl rfl rfl rfl rfl rfl ?_))
                | (show AWp _ _ _ _ _; first
                    | refine AWp.drawE [9, 11] (by kernel_rfl) (by kernel_rfl) ?_
                    | refine AWp.seq ?_
                    | refine AWp.region ?_
                    | refine AWp.condT rfl ?_
                    | refine AWp.condF rfl ?_
                    | refine AWp.skip ?_
                    | refine AWp.block ?_
                    | refine AWp.exit ?_
                    | refine AWp.ret ?_
                    | refine AWp.draw0 (by kernel_rfl) ?_)
                | refine AThen.normal ?_
                | refine AThen.exit ?_
                | refine AThen.ret ?_
                | refine AThen.pan ?_
                | refine AInBlock.pan ?_
                | refine AInBlock.normal ?_
                | refine AInBlock.ret ?_
                | refine AInBlock.same ?_
                | refine AInBlock.other rfl ?_)
            exact AWpL.tidy (fr' := [(1, .iptr (Tree.mk k o n s ns ks p).cells 0), (2, .ptr (.l 2) 0 0), (3, .ptr (.l 3) 0 0), (4, .int .i64 ((j + 1 : Nat) : Int))]) ⟨rfl, rfl, rfl, subInt (wrapAdd (by omega) (by omega)), trivial⟩ rfl (hnext.out _ hlt (.inr ⟨by omega, _, v + 1, rfl, rfl, rfl, rfl, rfl, trivial⟩))
        · clear hnext
          have hjn : j = (ns.map qs).length := by first | (simp; omega) | omega
          rcases hst with ⟨hj0, fr, rfl, hsub⟩ | ⟨hjp, fr, v, rfl, hsub⟩
          · refine AWp.mask hsub ?_
            clear hsub
            repeat' (first
                | (show DOps _ _ _ _ _ _ _ _ _ _ _; first
                    | refine D.end ?_
                    | refine D.val (.inl rfl) rfl rfl rfl ?_
                    | refine D.leave rfl rfl rfl rfl ?_
                    | refine D.val (Wants.take rfl rfl) rfl rfl rfl ?_
                    | refine (D.cmpF rfl (.inl rfl) rfl rfl rfl (decide_eq_false (by omega)) ?_)
                    | refine D.cmp rfl (.inl rfl) rfl rfl rfl (fun _ => ?_) (fun _ => ?_)
                    | refine D.valO (.inl rfl) rfl rfl rfl rfl ?_
                    | refine D.build (.inl rfl) rfl rfl rfl rfl rfl rfl rfl ?_
                    | refine D.buildSlice (.inl rfl) rfl rfl rfl rfl rfl rfl rfl rfl rfl ?_
                    | refine (D.cmpF rfl (Wants.take rfl rfl) rfl rfl rfl (decide_eq_false (by omega)) ?_)
                    | refine D.cmp rfl (Wants.take rfl rfl) rfl rfl rfl (fun _ => ?_) (fun _ => ?_)
                    | refine D.valO (Wants.take rfl rfl) rfl rfl rfl rfl ?_
                    | refine D.build (Wants.take rfl rfl) rfl rfl rfl rfl rfl rfl rfl ?_
                    | refine D.buildSlice (Wants.take rfl rfl) rfl rfl rfl rfl rfl rfl rfl rfl rfl ?_)
                | (show AOps _ _ _ _ _ _; first
                    | refine AOps.nil ?_
                    | refine AOps.plain rfl (W.pure rfl rfl rfl ?_)
                    | refine AOps.plain rfl (W.cmpF rfl rfl rfl rfl (decide_eq_false (by omega)) ?_)
                    | refine AOps.plain rfl (W.cmp rfl rfl rfl rfl (fun _ => ?_) (fun _ => ?_))
                    | refine W.leave rfl rfl rfl rfl ?_
                    | refine AOps.take rfl rfl (W.pure rfl rfl rfl ?_)
                    | refine AOps.take rfl rfl (W.cmpF rfl rfl rfl rfl (decide_eq_false (by omega)) ?_)
                    | refine AOps.take rfl rfl (W.cmp rfl rfl rfl rfl (fun _ => ?_) (fun _ => ?_))
                    | refine AOps.plain rfl (W.boxI rfl rfl rfl rfl rfl rfl ?_)
                    | refine AOps.plain rfl (W.build rfl rfl rfl rfl rfl rfl rfl ?_)
                    | refine AOps.plain rfl (W.alloc rfl rfl rfl rfl rfl ?_)
                    | refine AOps.plain rfl (W.storeL rfl rfl rfl rfl rfl rfl rfl rfl rfl ?_)
                    | refine AOps.plain rfl (W.buildSlice rfl rfl rfl rfl rfl rfl rfl rfl rfl ?_))
                | (show AWp _ _ _ _ _; first
                    | refine AWp.seq ?_
                    | refine AWp.region ?_
                    | refine AWp.condT rfl ?_
                    | refine AWp.condF rfl ?_
                    | refine AWp.skip ?_
                    | refine AWp.block ?_
                    | refine AWp.exit ?_
                    | refine AWp.ret ?_
                    | refine AWp.draw0 (by kernel_rfl) ?_)
                | refine AThen.normal ?_
                | refine AThen.exit ?_
                | refine AThen.ret ?_
                | refine AThen.pan ?_
                | refine AInBlock.pan ?_
                | refine AInBlock.normal ?_
                | refine AInBlock.ret ?_
                | refine AInBlock.same ?_
                | refine AInBlock.other rfl ?_)
            have hn0 : (ns.map qs) = [] := List.eq_nil_of_length_eq_zero (by omega)
            refine ⟨_, _, .nilslice, [(2, .box zero25)], rfl, ⟨rfl, rfl, rfl, trivial⟩, fun t => rfl, rfl, rfl, rfl, fun fr X _ => ?_⟩
            rw [hn0]
            exact Freeze.nil
          · refine AWp.mask hsub ?_
            clear hsub
            repeat' (first
                | (show DOps _ _ _ _ _ _ _ _ _ _ _; first
                    | refine D.end ?_
                    | refine D.val (.inl rfl) rfl rfl rfl ?_
                    | refine D.leave rfl rfl rfl rfl ?_
                    | refine D.val (Wants.take rfl rfl) rfl rfl rfl ?_
                    | refine (D.cmpF rfl (.inl rfl) rfl rfl rfl (decide_eq_false (by omega)) ?_)
                    | refine D.cmp rfl (.inl rfl) rfl rfl rfl (fun _ => ?_) (fun _ => ?_)
                    | refine D.valO (.inl rfl) rfl rfl rfl rfl ?_
                    | refine D.build (.inl rfl) rfl rfl rfl rfl rfl rfl rfl ?_
                    | refine D.buildSlice (.inl rfl) rfl rfl rfl rfl rfl rfl rfl rfl rfl ?_
                    | refine (D.cmpF rfl (Wants.take rfl rfl) rfl rfl rfl (decide_eq_false (by omega)) ?_)
                    | refine D.cmp rfl (Wants.take rfl rfl) rfl rfl rfl (fun _ => ?_) (fun _ => ?_)
                    | refine D.valO (Wants.take rfl rfl) rfl rfl rfl rfl ?_
                    | refine D.build (Wants.take rfl rfl) rfl rfl rfl rfl rfl rfl rfl ?_
                    | refine D.buildSlice (Wants.take rfl rfl) rfl rfl rfl rfl rfl rfl rfl rfl rfl ?_)
                | (show AOps _ _ _ _ _ _; first
                    | refine AOps.nil ?_
                    | refine AOps.plain rfl (W.pure rfl rfl rfl ?_)
                    | refine AOps.plain rfl (W.cmpF rfl rfl rfl rfl (decide_eq_false (by omega)) ?_)
                    | refine AOps.plain rfl (W.cmp rfl rfl rfl rfl (fun _ => ?_) (fun _ => ?_))
                    | refine W.leave rfl rfl rfl rfl ?_
                    | refine AOps.take rfl rfl (W.pure rfl rfl rfl ?_)
                    | refine AOps.take rfl rfl (W.cmpF rfl rfl rfl rfl (decide_eq_false (by omega)) ?_)
                    | refine AOps.take rfl rfl (W.cmp rfl rfl rfl rfl (fun _ => ?_) (fun _ => ?_))
                    | refine AOps.plain rfl (W.boxI rfl rfl rfl rfl rfl rfl ?_)
                    | refine AOps.plain rfl (W.build rfl rfl rfl rfl rfl rfl rfl ?_)
                    | refine AOps.plain rfl (W.alloc rfl rfl rfl rfl rfl ?_)
                    | refine AOps.plain rfl (W.storeL rfl rfl rfl rfl rfl rfl rfl rfl rfl ?_)
                    | refine AOps.plain rfl (W.buildSlice rfl rfl rfl rfl rfl rfl rfl rfl rfl ?_))
                | (show AWp _ _ _ _ _; first
                    | refine AWp.seq ?_
                    | refine AWp.region ?_
                    | refine AWp.condT rfl ?_
                    | refine AWp.condF rfl ?_
                    | refine AWp.skip ?_
                    | refine AWp.block ?_
                    | refine AWp.exit ?_
                    | refine AWp.ret ?_
                    | refine AWp.draw0 (by kernel_rfl) ?_)
                | refine AThen.normal ?_
                | refine AThen.exit ?_
                | refine AThen.ret ?_
                | refine AThen.pan ?_
                | refine AInBlock.pan ?_
                | refine AInBlock.normal ?_
                | refine AInBlock.ret ?_
                | refine AInBlock.same ?_
                | refine AInBlock.other rfl ?_)
            have htk : (ns.map qs).take j = (ns.map qs) := List.take_of_length_le (by omega)
            rw [htk, hjn]
            refine ⟨_, _, _, _, rfl, ⟨rfl, rfl, rfl, trivial⟩, fun t => rfl, rfl, rfl, rfl, fun fr X hX => ?_⟩
            refine Freeze.slice (ver := v) (e := 9) (sz := 1) (by rw [hX 44 (by decide)]; rfl) (strs_pures _) (by rw [strs_length, Nat.mul_one]) (by decide)
      · have e8 : (k == 8) = false := by rw [beq_eq_false_iff_ne]; exact h8
        have e : ns = ns' := by rw [hns', if_neg h8]
        subst e
        refine AWpL.upto (fun j st => (j = 0 ∧ ∃ fr, st = { fr := fr, loc := [(3, .box [.int .i64 k, .int .i64 o, .int .i64 n, .str s', .nilslice, .islice (rows ks) ks.length, .int .i64 p]), (2, .box zero25)], M := M, ds := [] } ∧ Sub fr [(1, .iptr (Tree.mk k o n s ns ks p).cells 0), (2, .ptr (.l 2) 0 0), (3, .ptr (.l 3) 0 0), (4, .int .i64 (j : Int))]) ∨
          (0 < j ∧ ∃ fr v, st = { fr := fr, loc := [(3, .box [.int .i64 k, .int .i64 o, .int .i64 n, .str s', .mslice (.l 54) v j, .islice (rows ks) ks.length, .int .i64 p]), (54, .arr v 9 1 (strs (ns.take j))), (2, .box zero25)], M := M, ds := [] } ∧ Sub fr [(1, .iptr (Tree.mk k o n s ns ks p).cells 0), (2, .ptr (.l 2) 0 0), (3, .ptr (.l 3) 0 0), (4, .int .i64 (j : Int))]))
          ns.length ?_ 0 _ (Nat.zero_le _) (.inl ⟨rfl, _, rfl, rfl, rfl, rfl, rfl, trivial⟩)
        rintro j st hj hst hnext
        by_cases hlt : j < ns.length
        · have hb := hn1 ns[j] (List.getElem_mem hlt)
          have hlt2 : j < ns.length := by simpa using hlt
          have hsnoc : strs (ns.take j) ++ [.str ( ns[j])] = strs (ns.take (j + 1)) := by rw [strs_snoc, ← take_snoc hlt2]; try simp
          have hrl : (strs (ns.take j)).length = j * 1 := by rw [strs_length, List.length_take, Nat.min_eq_left (by omega), Nat.mul_one]
          rcases hst with ⟨hj0, fr, rfl, hsub⟩ | ⟨hjp, fr, v, rfl, hsub⟩
          · refine AWp.mask hsub ?_
            clear hsub
            subst hj0
            have hs0 : strs (ns.take 1) = [.str ( ns[0])] := by rw [← hsnoc]; simp [strs]
            repeat' (first
                | (show DOps _ _ _ _ _ _ _ _ _ _ _; first
                    | refine D.end ?_
                    | refine D.val (.inl rfl) rfl rfl rfl ?_
                    | refine D.leave rfl rfl rfl rfl ?_
                    | refine D.val (Wants.take rfl rfl) rfl rfl rfl ?_
                    | refine (D.cmpT rfl (.inl rfl) rfl rfl rfl (decide_eq_true (by omega)) ?_)
                    | refine (D.cmpF rfl (.inl rfl) rfl rfl rfl (e8) ?_)
                    | refine (D.loadBox (.inl rfl) (by kernel_rfl) rfl rfl rfl rfl rfl rfl ?_)
                    | refine (D.indexAddr (.inl rfl) rfl rfl rfl rfl rfl rfl (by omega) (by omega) (strs_ne hlt) ?_)
                    | refine (D.loadRow (.inl rfl) rfl rfl rfl rfl (ld_name hlt) ?_)
                    | refine (D.concat (.inl rfl) rfl rfl rfl rfl rfl (by show 1 + _ ≤ _; omega) ?_)
                    | refine (D.appendNil (.inl rfl) (by kernel_rfl) rfl rfl rfl rfl rfl rfl (Nat.succ_pos _) (by decide) (by decide) rfl rfl rfl ?_)
                    | refine (D.storeL (.inl rfl) (by kernel_rfl) rfl rfl rfl rfl rfl rfl rfl rfl rfl rfl ?_)
                    | refine D.cmp rfl (.inl rfl) rfl rfl rfl (fun _ => ?_) (fun _ => ?_)
                    | refine D.valO (.inl rfl) rfl rfl rfl rfl ?_
                    | refine D.build (.inl rfl) rfl rfl rfl rfl rfl rfl rfl ?_
                    | refine D.buildSlice (.inl rfl) rfl rfl rfl rfl rfl rfl rfl rfl rfl ?_
                    | refine (D.cmpT rfl (Wants.take rfl rfl) rfl rfl rfl (decide_eq_true (by omega)) ?_)
                    | refine (D.cmpF rfl (Wants.take rfl rfl) rfl rfl rfl (e8) ?_)
                    | refine (D.loadBox (Wants.take rfl rfl) (by kernel_rfl) rfl rfl rfl rfl rfl rfl ?_)
                    | refine (D.indexAddr (Wants.take rfl rfl) rfl rfl rfl rfl rfl rfl (by omega) (by omega) (strs_ne hlt) ?_)
                    | refine (D.loadRow (Wants.take rfl rfl) rfl rfl rfl rfl (ld_name hlt) ?_)
                    | refine (D.concat (Wants.take rfl rfl) rfl rfl rfl rfl rfl (by show 1 + _ ≤ _; omega) ?_)
                    | refine (D.appendNil (Wants.take rfl rfl) (by kernel_rfl) rfl rfl rfl rfl rfl rfl (Nat.succ_pos _) (by decide) (by decide) rfl rfl rfl ?_)
                    | refine (D.storeL (Wants.take rfl rfl) (by kernel_rfl) rfl rfl rfl rfl rfl rfl rfl rfl rfl rfl ?_)
                    | refine D.cmp rfl (Wants.take rfl rfl) rfl rfl rfl (fun _ => ?_) (fun _ => ?_)
                    | refine D.valO (Wants.take rfl rfl) rfl rfl rfl rfl ?_
                    | refine D.build (Wants.take rfl rfl) rfl rfl rfl rfl rfl rfl rfl ?_
                    | refine D.buildSlice (Wants.take rfl rfl) rfl rfl rfl rfl rfl rfl rfl rfl rfl ?_)
                | (show AOps _ _ _ _ _ _; first
                    | refine AOps.nil ?_
                    | refine AOps.plain rfl (W.pure rfl rfl rfl ?_)
                    | refine AOps.plain rfl (W.cmpT rfl rfl rfl rfl (decide_eq_true (by omega)) ?_)
                    | refine AOps.plain rfl (W.cmpF rfl rfl rfl rfl (e8) ?_)
                    | refine AOps.plain rfl (W.cmp rfl rfl rfl rfl (fun _ => ?_) (fun _ => ?_))
                    | refine W.leave rfl rfl rfl rfl ?_
                    | refine AOps.take rfl rfl (W.pure rfl rfl rfl ?_)
                    | refine AOps.take rfl rfl (W.cmpT rfl rfl rfl rfl (decide_eq_true (by omega)) ?_)
                    | refine AOps.take rfl rfl (W.cmpF rfl rfl rfl rfl (e8) ?_)
                    | refine AOps.take rfl rfl (W.cmp rfl rfl rfl rfl (fun _ => ?_) (fun _ => ?_))
                    | refine AOps.plain rfl (W.boxI rfl rfl rfl rfl rfl rfl ?_)
                    | refine AOps.plain rfl (W.build rfl rfl rfl rfl rfl rfl rfl ?_)
                    | refine AOps.plain rfl (W.alloc rfl rfl rfl rfl rfl ?_)
                    | refine AOps.plain rfl (W.storeL rfl rfl rfl rfl rfl rfl rfl rfl rfl ?_)
                    | refine AOps.plain rfl (W.buildSlice rfl rfl rfl rfl rfl rfl rfl rfl rfl ?_))
                | (show AWp _ _ _ _ _; first
                    | refine AWp.drawE [8, 10] (by kernel_rfl) (by kernel_rfl) ?_
                    | refine AWp.seq ?_
                    | refine AWp.region ?_
                    | refine AWp.condT rfl ?_
                    | refine AWp.condF rfl ?_
                    | refine AWp.skip ?_
                    | refine AWp.block ?_
                    | refine AWp.exit ?_
                    | refine AWp.ret ?_
                    | refine AWp.draw0 (by kernel_rfl) ?_)
                | refine AThen.normal ?_
                | refine AThen.exit ?_
                | refine AThen.ret ?_
                | refine AThen.pan ?_
                | refine AInBlock.pan ?_
                | refine AInBlock.normal ?_
                | refine AInBlock.ret ?_
                | refine AInBlock.same ?_
                | refine AInBlock.other rfl ?_)
            exact AWpL.tidy (fr' := [(1, .iptr (Tree.mk k o n s ns ks p).cells 0), (2, .ptr (.l 2) 0 0), (3, .ptr (.l 3) 0 0), (4, .int .i64 ((0 + 1 : Nat) : Int))]) ⟨rfl, rfl, rfl, subInt (wrapAdd (by omega) (by omega)), trivial⟩ rfl (hnext.out _ hlt (.inr ⟨by omega, _, 0, by rw [hs0]; rfl, rfl, rfl, rfl, rfl, trivial⟩))
          · refine AWp.mask hsub ?_
            clear hsub
            repeat' (first
                | (show DOps _ _ _ _ _ _ _ _ _ _ _; first
                    | refine D.end ?_
                    | refine D.val (.inl rfl) rfl rfl rfl ?_
                    | refine D.leave rfl rfl rfl rfl ?_
                    | refine D.val (Wants.take rfl rfl) rfl rfl rfl ?_
                    | refine (D.cmpT rfl (.inl rfl) rfl rfl rfl (decide_eq_true (by omega)) ?_)
                    | refine (D.cmpF rfl (.inl rfl) rfl rfl rfl (e8) ?_)
                    | refine (D.loadBox (.inl rfl) (by kernel_rfl) rfl rfl rfl rfl rfl rfl ?_)
                    | refine (D.indexAddr (.inl rfl) rfl rfl rfl rfl rfl rfl (by omega) (by omega) (strs_ne hlt) ?_)
                    | refine (D.loadRow (.inl rfl) rfl rfl rfl rfl (ld_name hlt) ?_)
                    | refine (D.concat (.inl rfl) rfl rfl rfl rfl rfl (by show 1 + _ ≤ _; omega) ?_)
                    | refine (D.appendL (.inl rfl) (by kernel_rfl) rfl rfl rfl rfl rfl hrl rfl rfl rfl hsnoc rfl (Nat.succ_pos _) (by omega) (by omega) rfl rfl ?_)
                    | refine (D.storeL (.inl rfl) (by kernel_rfl) rfl rfl rfl rfl rfl rfl rfl rfl rfl rfl ?_)
                    | refine D.cmp rfl (.inl rfl) rfl rfl rfl (fun _ => ?_) (fun _ => ?_)
                    | refine D.valO (.inl rfl) rfl rfl rfl rfl ?_
                    | refine D.build (.inl rfl) rfl rfl rfl rfl rfl rfl rfl ?_
                    | refine D.buildSlice (.inl rfl) rfl rfl rfl rfl rfl rfl rfl rfl rfl ?_
                    | refine (D.cmpT rfl (Wants.take rfl rfl) rfl rfl rfl (decide_eq_true (by omega)) ?_)
                    | refine (D.cmpF rfl (Wants.take rfl rfl) rfl rfl rfl (e8) ?_)
                    | refine (D.loadBox (Wants.take rfl rfl) (by kernel_rfl) rfl rfl rfl rfl rfl rfl ?_)
                    | refine (D.indexAddr (Wants.take rfl rfl) rfl rfl rfl rfl rfl rfl (by omega) (by omega) (strs_ne hlt) ?_)
                    | refine (D.loadRow (Wants.take rfl rfl) rfl rfl rfl rfl (ld_name hlt) ?_)
                    | refine (D.concat (Wants.take rfl rfl) rfl rfl rfl rfl rfl (by show 1 + _ ≤ _; omega) ?_)
                    | refine (D.appendL (Wants.take rfl rfl) (by kernel_rfl) rfl rfl rfl rfl rfl hrl rfl rfl rfl hsnoc rfl (Nat.succ_pos _) (by omega) (by omega) rfl rfl ?_)
                    | refine (D.storeL (Wants.take rfl rfl) (by kernel_rfl) rfl rfl rfl rfl rfl rfl rfl rfl rfl rfl ?_)
                    | refine D.cmp rfl (Wants.take rfl rfl) rfl rfl rfl (fun _ => ?_) (fun _ => ?_)
                    | refine D.valO (Wants.take rfl rfl) rfl rfl rfl rfl ?_
                    | refine D.build (Wants.take rfl rfl) rfl rfl rfl rfl rfl rfl rfl ?_
                    | refine D.buildSlice (Wants.take rfl rfl) rfl rfl rfl rfl rfl rfl rfl rfl rfl ?_)
                | (show AOps _ _ _ _ _ _; first
                    | refine AOps.nil ?_
                    | refine AOps.plain rfl (W.pure rfl rfl rfl ?_)
                    | refine AOps.plain rfl (W.cmpT rfl rfl rfl rfl (decide_eq_true (by omega)) ?_)
                    | refine AOps.plain rfl (W.cmpF rfl rfl rfl rfl (e8) ?_)
                    | refine AOps.plain rfl (W.cmp rfl rfl rfl rfl (fun _ => ?_) (fun _ => ?_))
                    | refine W.leave rfl rfl rfl rfl ?_
                    | refine AOps.take rfl rfl (W.pure rfl rfl rfl ?_)
                    | refine AOps.take rfl rfl (W.cmpT rfl rfl rfl rfl (decide_eq_true (by omega)) ?_)
                    | refine AOps.take rfl rfl (W.cmpF rfl rfl rfl rfl (e8) ?_)
                    | refine AOps.take rfl rfl (W.cmp rfl rfl rfl rfl (fun _ => ?_) (fun _ => ?_))
                    | refine AOps.plain rfl (W.boxI rfl rfl rfl rfl rfl rfl ?_)
                    | refine AOps.plain rfl (W.build rfl rfl rfl rfl rfl rfl rfl ?_)
                    | refine AOps.plain rfl (W.alloc rfl rfl rfl rfl rfl ?_)
                    | refine AOps.plain rfl (W.storeL rfl rfl rfl rfl rfl rfl rfl rfl rfl ?_)
                    | refine AOps.plain rfl (W.buildSlice rfl rfl rfl rfl rfl rfl rfl rfl rfl ?_))
                | (show AWp _ _ _ _ _; first
                    | refine AWp.drawE [8, 10] (by kernel_rfl) (by kernel_rfl) ?_
                    | refine AWp.seq ?_
                    | refine AWp.region ?_
                    | refine AWp.condT rfl ?_
                    | refine AWp.condF rfl ?_
                    | refine AWp.skip ?_
                    | refine AWp.block ?_
                    | refine AWp.exit ?_
                    | refine AWp.ret ?_
                    | refine AWp.draw0 (by kernel_rfl) ?_)
                | refine AThen.normal ?_
                | refine AThen.exit ?_
                | refine AThen.ret ?_
                | refine AThen.pan ?_
                | refine AInBlock.pan ?_
                | refine AInBlock.normal ?_
                | refine AInBlock.ret ?_
                | refine AInBlock.same ?_
                | refine AInBlock.other rfl ?_)
            exact AWpL.tidy (fr' := [(1, .iptr (Tree.mk k o n s ns ks p).cells 0), (2, .ptr (.l 2) 0 0), (3, .ptr (.l 3) 0 0), (4, .int .i64 ((j + 1 : Nat) : Int))]) ⟨rfl, rfl, rfl, subInt (wrapAdd (by omega) (by omega)), trivial⟩ rfl (hnext.out _ hlt (.inr ⟨by omega, _, v + 1, rfl, rfl, rfl, rfl, rfl, trivial⟩))
        · clear hnext
          have hjn : j = ns.length := by first | (simp; omega) | omega
          rcases hst with ⟨hj0, fr, rfl, hsub⟩ | ⟨hjp, fr, v, rfl, hsub⟩
          · refine AWp.mask hsub ?_
            clear hsub
            repeat' (first
                | (show DOps _ _ _ _ _ _ _ _ _ _ _; first
                    | refine D.end ?_
                    | refine D.val (.inl rfl) rfl rfl rfl ?_
                    | refine D.leave rfl rfl rfl rfl ?_
                    | refine D.val (Wants.take rfl rfl) rfl rfl rfl ?_
                    | refine (D.cmpF rfl (.inl rfl) rfl rfl rfl (decide_eq_false (by omega)) ?_)
                    | refine D.cmp rfl (.inl rfl) rfl rfl rfl (fun _ => ?_) (fun _ => ?_)
                    | refine D.valO (.inl rfl) rfl rfl rfl rfl ?_
                    | refine D.build (.inl rfl) rfl rfl rfl rfl rfl rfl rfl ?_
                    | refine D.buildSlice (.inl rfl) rfl rfl rfl rfl rfl rfl rfl rfl rfl ?_
                    | refine (D.cmpF rfl (Wants.take rfl rfl) rfl rfl rfl (decide_eq_false (by omega)) ?_)
                    | refine D.cmp rfl (Wants.take rfl rfl) rfl rfl rfl (fun _ => ?_) (fun _ => ?_)
                    | refine D.valO (Wants.take rfl rfl) rfl rfl rfl rfl ?_
                    | refine D.build (Wants.take rfl rfl) rfl rfl rfl rfl rfl rfl rfl ?_
                    | refine D.buildSlice (Wants.take rfl rfl) rfl rfl rfl rfl rfl rfl rfl rfl rfl ?_)
                | (show AOps _ _ _ _ _ _; first
                    | refine AOps.nil ?_
                    | refine AOps.plain rfl (W.pure rfl rfl rfl ?_)
                    | refine AOps.plain rfl (W.cmpF rfl rfl rfl rfl (decide_eq_false (by omega)) ?_)
                    | refine AOps.plain rfl (W.cmp rfl rfl rfl rfl (fun _ => ?_) (fun _ => ?_))
                    | refine W.leave rfl rfl rfl rfl ?_
                    | refine AOps.take rfl rfl (W.pure rfl rfl rfl ?_)
                    | refine AOps.take rfl rfl (W.cmpF rfl rfl rfl rfl (decide_eq_false (by omega)) ?_)
                    | refine AOps.take rfl rfl (W.cmp rfl rfl rfl rfl (fun _ => ?_) (fun _ => ?_))
                    | refine AOps.plain rfl (W.boxI rfl rfl rfl rfl rfl rfl ?_)
                    | refine AOps.plain rfl (W.build rfl rfl rfl rfl rfl rfl rfl ?_)
                    | refine AOps.plain rfl (W.alloc rfl rfl rfl rfl rfl ?_)
                    | refine AOps.plain rfl (W.storeL rfl rfl rfl rfl rfl rfl rfl rfl rfl ?_)
                    | refine AOps.plain rfl (W.buildSlice rfl rfl rfl rfl rfl rfl rfl rfl rfl ?_))
                | (show AWp _ _ _ _ _; first
                    | refine AWp.seq ?_
                    | refine AWp.region ?_
                    | refine AWp.condT rfl ?_
                    | refine AWp.condF rfl ?_
                    | refine AWp.skip ?_
                    | refine AWp.block ?_
                    | refine AWp.exit ?_
                    | refine AWp.ret ?_
                    | refine AWp.draw0 (by kernel_rfl) ?_)
                | refine AThen.normal ?_
                | refine AThen.exit ?_
                | refine AThen.ret ?_
                | refine AThen.pan ?_
                | refine AInBlock.pan ?_
                | refine AInBlock.normal ?_
                | refine AInBlock.ret ?_
                | refine AInBlock.same ?_
                | refine AInBlock.other rfl ?_)
            have hn0 : ns = [] := List.eq_nil_of_length_eq_zero (by omega)
            refine ⟨_, _, .nilslice, [(2, .box zero25)], rfl, ⟨rfl, rfl, rfl, trivial⟩, fun t => rfl, rfl, rfl, rfl, fun fr X _ => ?_⟩
            rw [hn0]
            exact Freeze.nil
          · refine AWp.mask hsub ?_
            clear hsub
            repeat' (first
                | (show DOps _ _ _ _ _ _ _ _ _ _ _; first
                    | refine D.end ?_
                    | refine D.val (.inl rfl) rfl rfl rfl ?_
                    | refine D.leave rfl rfl rfl rfl ?_
                    | refine D.val (Wants.take rfl rfl) rfl rfl rfl ?_
                    | refine (D.cmpF rfl (.inl rfl) rfl rfl rfl (decide_eq_false (by omega)) ?_)
                    | refine D.cmp rfl (.inl rfl) rfl rfl rfl (fun _ => ?_) (fun _ => ?_)
                    | refine D.valO (.inl rfl) rfl rfl rfl rfl ?_
                    | refine D.build (.inl rfl) rfl rfl rfl rfl rfl rfl rfl ?_
                    | refine D.buildSlice (.inl rfl) rfl rfl rfl rfl rfl rfl rfl rfl rfl ?_
                    | refine (D.cmpF rfl (Wants.take rfl rfl) rfl rfl rfl (decide_eq_false (by omega)) ?_)
                    | refine D.cmp rfl (Wants.take rfl rfl) rfl rfl rfl (fun _ => ?_) (fun _ => ?_)
                    | refine D.valO (Wants.take rfl rfl) rfl rfl rfl rfl ?_
                    | refine D.build (Wants.take rfl rfl) rfl rfl rfl rfl rfl rfl rfl ?_
                    | refine D.buildSlice (Wants.take rfl rfl) rfl rfl rfl rfl rfl rfl rfl rfl rfl ?_)
                | (show AOps _ _ _ _ _ _; first
                    | refine AOps.nil ?_
                    | refine AOps.plain rfl (W.pure rfl rfl rfl ?_)
                    | refine AOps.plain rfl (W.cmpF rfl rfl rfl rfl (decide_eq_false (by omega)) ?_)
                    | refine AOps.plain rfl (W.cmp rfl rfl rfl rfl (fun _ => ?_) (fun _ => ?_))
                    | refine W.leave rfl rfl rfl rfl ?_
                    | refine AOps.take rfl rfl (W.pure rfl rfl rfl ?_)
                    | refine AOps.take rfl rfl (W.cmpF rfl rfl rfl rfl (decide_eq_false (by omega)) ?_)
                    | refine AOps.take rfl rfl (W.cmp rfl rfl rfl rfl (fun _ => ?_) (fun _ => ?_))
                    | refine AOps.plain rfl (W.boxI rfl rfl rfl rfl rfl rfl ?_)
                    | refine AOps.plain rfl (W.build rfl rfl rfl rfl rfl rfl rfl ?_)
                    | refine AOps.plain rfl (W.alloc rfl rfl rfl rfl rfl ?_)
                    | refine AOps.plain rfl (W.storeL rfl rfl rfl rfl rfl rfl rfl rfl rfl ?_)
                    | refine AOps.plain rfl (W.buildSlice rfl rfl rfl rfl rfl rfl rfl rfl rfl ?_))
                | (show AWp _ _ _ _ _; first
                    | refine AWp.seq ?_
                    | refine AWp.region ?_
                    | refine AWp.condT rfl ?_
                    | refine AWp.condF rfl ?_
                    | refine AWp.skip ?_
                    | refine AWp.block ?_
                    | refine AWp.exit ?_
                    | refine AWp.ret ?_
                    | refine AWp.draw0 (by kernel_rfl) ?_)
                | refine AThen.normal ?_
                | refine AThen.exit ?_
                | refine AThen.ret ?_
                | refine AThen.pan ?_
                | refine AInBlock.pan ?_
                | refine AInBlock.normal ?_
                | refine AInBlock.ret ?_
                | refine AInBlock.same ?_
                | refine AInBlock.other rfl ?_)
            have htk : ns.take j = ns := List.take_of_length_le (by omega)
            rw [htk, hjn]
            refine ⟨_, _, _, _, rfl, ⟨rfl, rfl, rfl, trivial⟩, fun t => rfl, rfl, rfl, rfl, fun fr X hX => ?_⟩
            refine Freeze.slice (ver := v) (e := 9) (sz := 1) (by rw [hX 54 (by decide)]; rfl) (strs_pures _) (by rw [strs_length, Nat.mul_one]) (by decide)
    -- the kids
    rintro _ ⟨fr, loc, nmv, rest, rfl, hsub, hre, hr2, hr73, hone, hfz⟩
    refine AWp.relook hre (AWp.mask hsub ?_)
    clear hsub hre hns' hn1
    repeat' (first
        | (show DOps _ _ _ _ _ _ _ _ _ _ _; first
            | refine D.end ?_
            | refine D.val (.inl rfl) rfl rfl rfl ?_
            | refine D.leave rfl rfl rfl rfl ?_
            | refine D.val (Wants.take rfl rfl) rfl rfl rfl ?_
            | refine D.cmp rfl (.inl rfl) rfl rfl rfl (fun _ => ?_) (fun _ => ?_)
            | refine D.valO (.inl rfl) rfl rfl rfl rfl ?_
            | refine D.build (.inl rfl) rfl rfl rfl rfl rfl rfl rfl ?_
            | refine D.buildSlice (.inl rfl) rfl rfl rfl rfl rfl rfl rfl rfl rfl ?_
            | refine D.cmp rfl (Wants.take rfl rfl) rfl rfl rfl (fun _ => ?_) (fun _ => ?_)
            | refine D.valO (Wants.take rfl rfl) rfl rfl rfl rfl ?_
            | refine D.build (Wants.take rfl rfl) rfl rfl rfl rfl rfl rfl rfl ?_
            | refine D.buildSlice (Wants.take rfl rfl) rfl rfl rfl rfl rfl rfl rfl rfl rfl ?_)
        | (show AOps _ _ _ _ _ _; first
            | refine AOps.nil ?_
            | refine AOps.plain rfl (W.pure rfl rfl rfl ?_)
            | refine AOps.plain rfl (W.cmp rfl rfl rfl rfl (fun _ => ?_) (fun _ => ?_))
            | refine W.leave rfl rfl rfl rfl ?_
            | refine AOps.take rfl rfl (W.pure rfl rfl rfl ?_)
            | refine AOps.take rfl rfl (W.cmp rfl rfl rfl rfl (fun _ => ?_) (fun _ => ?_))
            | refine AOps.plain rfl (W.boxI rfl rfl rfl rfl rfl rfl ?_)
            | refine AOps.plain rfl (W.build rfl rfl rfl rfl rfl rfl rfl ?_)
            | refine AOps.plain rfl (W.alloc rfl rfl rfl rfl rfl ?_)
            | refine AOps.plain rfl (W.storeL rfl rfl rfl rfl rfl rfl rfl rfl rfl ?_)
            | refine AOps.plain rfl (W.buildSlice rfl rfl rfl rfl rfl rfl rfl rfl rfl ?_))
        | (show AWp _ _ _ _ _; first
            | refine AWp.seq ?_
            | refine AWp.region ?_
            | refine AWp.condT rfl ?_
            | refine AWp.condF rfl ?_
            | refine AWp.skip ?_
            | refine AWp.block ?_
            | refine AWp.exit ?_
            | refine AWp.ret ?_
            | refine AWp.draw0 (by kernel_rfl) ?_)
        | refine AThen.normal ?_
        | refine AThen.exit ?_
        | refine AThen.ret ?_
        | refine AThen.pan ?_
        | refine AInBlock.pan ?_
        | refine AInBlock.normal ?_
        | refine AInBlock.ret ?_
        | refine AInBlock.same ?_
        | refine AInBlock.other rfl ?_)
    refine AWp.relook shadow2 (AWp.mask (fr' := [(1, .iptr (Tree.mk k o n s ns ks p).cells 0), (2, .ptr (.l 2) 0 0), (3, .ptr (.l 3) 0 0), (5, .int .i64 0)]) ⟨rfl, rfl, rfl, rfl, trivial⟩ ?_)
    refine AWp.loop ?_
    refine AWpL.upto (fun j st => (j = 0 ∧ ∃ fr, st = { fr := fr, loc := (3, .box [.int .i64 k, .int .i64 o, .int .i64 n, .str s', nmv, .nilslice, .int .i64 p]) :: rest, M := M, ds := [] } ∧ Sub fr [(1, .iptr (Tree.mk k o n s ns ks p).cells 0), (2, .ptr (.l 2) 0 0), (3, .ptr (.l 3) 0 0), (5, .int .i64 (j : Int))]) ∨
      (0 < j ∧ ∃ fr v, st = { fr := fr, loc := (3, .box [.int .i64 k, .int .i64 o, .int .i64 n, .str s', nmv, .mslice (.l 73) v j, .int .i64 p]) :: (73, .arr v 25 7 (rows ((turnsT ks).take j))) :: rest, M := M, ds := [] } ∧ Sub fr [(1, .iptr (Tree.mk k o n s ns ks p).cells 0), (2, .ptr (.l 2) 0 0), (3, .ptr (.l 3) 0 0), (5, .int .i64 (j : Int))]))
      ks.length ?_ 0 _ (Nat.zero_le _) (.inl ⟨rfl, _, rfl, rfl, rfl, rfl, rfl, trivial⟩)
    rintro j st hj hst hnext
    have hlt' : (turnsT ks).length = ks.length := by rw [turnsT_map]; simp
    by_cases hlt : j < ks.length
    · have hkid := ld_kid hlt
      have hcall := hih ks[j] (List.getElem_mem hlt)
      have hlt2 : j < (turnsT ks).length := by omega
      have hget : (turnsT ks)[j] = turnT ks[j] := by simp only [turnsT_map, List.getElem_map]
      have hsnoc : rows ((turnsT ks).take j) ++ (turnT ks[j]).cells = rows ((turnsT ks).take (j + 1)) := by rw [← take_snoc hlt2, rows_snoc, hget]
      have hrl := rows_length ((turnsT ks).take j)
      rw [List.length_take, Nat.min_eq_left (by omega)] at hrl
      clear hget hlt2 hih
      generalize turnT ks[j] = t' at hcall hsnoc
      obtain ⟨k', o', n', s'', ns'', ks'', p'⟩ := t'
      generalize ks[j] = t0 at hkid hcall
      obtain ⟨k0, o0, n0, s0, ns0, ks0, p0⟩ := t0
      rcases hst with ⟨hj0, fr, rfl, hsub⟩ | ⟨hjp, fr, v, rfl, hsub⟩
      · refine AWp.mask hsub ?_
        clear hsub
        subst hj0
        have hs0 : rows ((turnsT ks).take 1) = (Tree.mk k' o' n' s'' ns'' ks'' p').cells := by rw [← hsnoc]; simp [rows]
        have hn73 : look ((3, .box [.int .i64 k, .int .i64 o, .int .i64 n, .str s', nmv, .nilslice, .int .i64 p]) :: rest) 73 = none := by rw [look_cons, if_neg (by decide)]; exact hr73
        repeat' (first
            | (show DOps _ _ _ _ _ _ _ _ _ _ _; first
                | refine D.end ?_
                | refine D.val (.inl rfl) rfl rfl rfl ?_
                | refine D.leave rfl rfl rfl rfl ?_
                | refine D.val (Wants.take rfl rfl) rfl rfl rfl ?_
                | refine (D.cmpT rfl (.inl rfl) rfl rfl rfl (decide_eq_true (by omega)) ?_)
                | refine (D.loadBox (.inl rfl) (by kernel_rfl) rfl rfl rfl rfl rfl rfl ?_)
                | refine (D.indexAddr (.inl rfl) rfl rfl rfl rfl rfl rfl (by omega) (by omega) (rows_ne hlt) ?_)
                | refine (D.loadRow (.inl rfl) rfl rfl rfl rfl hkid ?_)
                | refine (D.callV (.inl rfl) rfl rfl rfl rfl rfl hcall rfl rfl rfl ?_)
                | refine (D.appendNil (.inl rfl) (by kernel_rfl) rfl rfl rfl rfl rfl rfl (Nat.succ_pos _) (by decide) (by decide) rfl hn73 rfl ?_)
                | refine (D.storeL (.inl rfl) (by kernel_rfl) rfl rfl rfl rfl rfl rfl rfl rfl rfl rfl ?_)
                | refine D.cmp rfl (.inl rfl) rfl rfl rfl (fun _ => ?_) (fun _ => ?_)
                | refine D.valO (.inl rfl) rfl rfl rfl rfl ?_
                | refine D.build (.inl rfl) rfl rfl rfl rfl rfl rfl rfl ?_
                | refine D.buildSlice (.inl rfl) rfl rfl rfl rfl rfl rfl rfl rfl rfl ?_
                | refine (D.cmpT rfl (Wants.take rfl rfl) rfl rfl rfl (decide_eq_true (by omega)) ?_)
                | refine (D.loadBox (Wants.take rfl rfl) (by kernel_rfl) rfl rfl rfl rfl rfl rfl ?_)
                | refine (D.indexAddr (Wants.take rfl rfl) rfl rfl rfl rfl rfl rfl (by omega) (by omega) (rows_ne hlt) ?_)
                | refine (D.loadRow (Wants.take rfl rfl) rfl rfl rfl rfl hkid ?_)
                | refine (D.callV (Wants.take rfl rfl) rfl rfl rfl rfl rfl hcall rfl rfl rfl ?_)
                | refine (D.appendNil (Wants.take rfl rfl) (by kernel_rfl) rfl rfl rfl rfl rfl rfl (Nat.succ_pos _) (by decide) (by decide) rfl hn73 rfl ?_)
                | refine (D.storeL (Wants.take rfl rfl) (by kernel_rfl) rfl rfl rfl rfl rfl rfl rfl rfl rfl rfl ?_)
                | refine D.cmp rfl (Wants.take rfl rfl) rfl rfl rfl (fun _ => ?_) (fun _ => ?_)
                | refine D.valO (Wants.take rfl rfl) rfl rfl rfl rfl ?_
                | refine D.build (Wants.take rfl rfl) rfl rfl rfl rfl rfl rfl rfl ?_
                | refine D.buildSlice (Wants.take rfl rfl) rfl rfl rfl rfl rfl rfl rfl rfl rfl ?_)
            | (show AOps _ _ _ _ _ _; first
                | refine AOps.nil ?_
                | refine AOps.plain rfl (W.pure rfl rfl rfl ?_)
                | refine AOps.plain rfl (W.cmpT rfl rfl rfl rfl (decide_eq_true (by omega)) ?_)
                | refine AOps.plain rfl (W.cmp rfl rfl rfl rfl (fun _ => ?_) (fun _ => ?_))
                | refine W.leave rfl rfl rfl rfl ?_
                | refine AOps.take rfl rfl (W.pure rfl rfl rfl ?_)
                | refine AOps.take rfl rfl (W.cmpT rfl rfl rfl rfl (decide_eq_true (by omega)) ?_)
                | refine AOps.take rfl rfl (W.cmp rfl rfl rfl rfl (fun _ => ?_) (fun _ => ?_))
                | refine AOps.plain rfl (W.boxI rfl rfl rfl rfl rfl rfl ?_)
                | refine AOps.plain rfl (W.build rfl rfl rfl rfl rfl rfl rfl ?_)
                | refine AOps.plain rfl (W.alloc rfl rfl rfl rfl rfl ?_)
                | refine AOps.plain rfl (W.storeL rfl rfl rfl rfl rfl rfl rfl rfl rfl ?_)
                | refine AOps.plain rfl (W.buildSlice rfl rfl rfl rfl rfl rfl rfl rfl rfl ?_))
            | (show AWp _ _ _ _ _; first
                | refine AWp.drawE [9, 11] (by kernel_rfl) (by kernel_rfl) ?_
                | refine AWp.seq ?_
                | refine AWp.region ?_
                | refine AWp.condT rfl ?_
                | refine AWp.condF rfl ?_
                | refine AWp.skip ?_
                | refine AWp.block ?_
                | refine AWp.exit ?_
                | refine AWp.ret ?_
                | refine AWp.draw0 (by kernel_rfl) ?_)
            | refine AThen.normal ?_
            | refine AThen.exit ?_
            | refine AThen.ret ?_
            | refine AThen.pan ?_
            | refine AInBlock.pan ?_
            | refine AInBlock.normal ?_
            | refine AInBlock.ret ?_
            | refine AInBlock.same ?_
            | refine AInBlock.other rfl ?_)
        refine AWpL.relook shadow3 (AWpL.mask (fr' := [(1, .iptr (Tree.mk k o n s ns ks p).cells 0), (2, .ptr (.l 2) 0 0), (3, .ptr (.l 3) 0 0), (5, .int .i64 ((0 + 1 : Nat) : Int))]) ⟨rfl, rfl, rfl, subInt (wrapAdd (by omega) (by omega)), trivial⟩ (hnext.out _ hlt (.inr ⟨by omega, _, 0, by rw [hs0]; rfl, rfl, rfl, rfl, rfl, trivial⟩)))
      · refine AWp.mask hsub ?_
        clear hsub
        repeat' (first
            | (show DOps _ _ _ _ _ _ _ _ _ _ _; first
                | refine D.end ?_
                | refine D.val (.inl rfl) rfl rfl rfl ?_
                | refine D.leave rfl rfl rfl rfl ?_
                | refine D.val (Wants.take rfl rfl) rfl rfl rfl ?_
                | refine (D.cmpT rfl (.inl rfl) rfl rfl rfl (decide_eq_true (by omega)) ?_)
                | refine (D.loadBox (.inl rfl) (by kernel_rfl) rfl rfl rfl rfl rfl rfl ?_)
                | refine (D.indexAddr (.inl rfl) rfl rfl rfl rfl rfl rfl (by omega) (by omega) (rows_ne hlt) ?_)
                | refine (D.loadRow (.inl rfl) rfl rfl rfl rfl hkid ?_)
                | refine (D.callV (.inl rfl) rfl rfl rfl rfl rfl hcall rfl rfl rfl ?_)
                | refine (D.appendL (.inl rfl) (by kernel_rfl) rfl rfl rfl rfl rfl hrl rfl rfl rfl hsnoc rfl (Nat.succ_pos _) (by omega) (by omega) rfl rfl ?_)
                | refine (D.storeL (.inl rfl) (by kernel_rfl) rfl rfl rfl rfl rfl rfl rfl rfl rfl rfl ?_)
                | refine D.cmp rfl (.inl rfl) rfl rfl rfl (fun _ => ?_) (fun _ => ?_)
                | refine D.valO (.inl rfl) rfl rfl rfl rfl ?_
                | refine D.build (.inl rfl) rfl rfl rfl rfl rfl rfl rfl ?_
                | refine D.buildSlice (.inl rfl) rfl rfl rfl rfl rfl rfl rfl rfl rfl ?_
                | refine (D.cmpT rfl (Wants.take rfl rfl) rfl rfl rfl (decide_eq_true (by omega)) ?_)
                | refine (D.loadBox (Wants.take rfl rfl) (by kernel_rfl) rfl rfl rfl rfl rfl rfl ?_)
                | refine (D.indexAddr (Wants.take rfl rfl) rfl rfl rfl rfl rfl rfl (by omega) (by omega) (rows_ne hlt) ?_)
                | refine (D.loadRow (Wants.take rfl rfl) rfl rfl rfl rfl hkid ?_)
                | refine (D.callV (Wants.take rfl rfl) rfl rfl rfl rfl rfl hcall rfl rfl rfl ?_)
                | refine (D.appendL (Wants.take rfl rfl) (by kernel_rfl) rfl rfl rfl rfl rfl hrl rfl rfl rfl hsnoc rfl (Nat.succ_pos _) (by omega) (by omega) rfl rfl ?_)
                | refine (D.storeL (Wants.take rfl rfl) (by kernel_rfl) rfl rfl rfl rfl rfl rfl rfl rfl rfl rfl ?_)
                | refine D.cmp rfl (Wants.take rfl rfl) rfl rfl rfl (fun _ => ?_) (fun _ => ?_)
                | refine D.valO (Wants.take rfl rfl) rfl rfl rfl rfl ?_
                | refine D.build (Wants.take rfl rfl) rfl rfl rfl rfl rfl rfl rfl ?_
                | refine D.buildSlice (Wants.take rfl rfl) rfl rfl rfl rfl rfl rfl rfl rfl rfl ?_)
            | (show AOps _ _ _ _ _ _; first
                | refine AOps.nil ?_
                | refine AOps.plain rfl (W.pure rfl rfl rfl ?_)
                | refine AOps.plain rfl (W.cmpT rfl rfl rfl rfl (decide_eq_true (by omega)) ?_)
                | refine AOps.plain rfl (W.cmp rfl rfl rfl rfl (fun _ => ?_) (fun _ => ?_))
                | refine W.leave rfl rfl rfl rfl ?_
                | refine AOps.take rfl rfl (W.pure rfl rfl rfl ?_)
                | refine AOps.take rfl rfl (W.cmpT rfl rfl rfl rfl (decide_eq_true (by omega)) ?_)
                | refine AOps.take rfl rfl (W.cmp rfl rfl rfl rfl (fun _ => ?_) (fun _ => ?_))
                | refine AOps.plain rfl (W.boxI rfl rfl rfl rfl rfl rfl ?_)
                | refine AOps.plain rfl (W.build rfl rfl rfl rfl rfl rfl rfl ?_)
                | refine AOps.plain rfl (W.alloc rfl rfl rfl rfl rfl ?_)
                | refine AOps.plain rfl (W.storeL rfl rfl rfl rfl rfl rfl rfl rfl rfl ?_)
                | refine AOps.plain rfl (W.buildSlice rfl rfl rfl rfl rfl rfl rfl rfl rfl ?_))
            | (show AWp _ _ _ _ _; first
                | refine AWp.drawE [9, 11] (by kernel_rfl) (by kernel_rfl) ?_
                | refine AWp.seq ?_
                | refine AWp.region ?_
                | refine AWp.condT rfl ?_
                | refine AWp.condF rfl ?_
                | refine AWp.skip ?_
                | refine AWp.block ?_
                | refine AWp.exit ?_
                | refine AWp.ret ?_
                | refine AWp.draw0 (by kernel_rfl) ?_)
            | refine AThen.normal ?_
            | refine AThen.exit ?_
            | refine AThen.ret ?_
            | refine AThen.pan ?_
            | refine AInBlock.pan ?_
            | refine AInBlock.normal ?_
            | refine AInBlock.ret ?_
            | refine AInBlock.same ?_
            | refine AInBlock.other rfl ?_)
        refine AWpL.relook shadow4 (hnext.out _ hlt (.inr ⟨by omega, _, v + 1, rfl, rfl, rfl, rfl, subInt (wrapAdd (by omega) (by omega)), trivial⟩))
    · clear hnext hih
      have hjk : j = ks.length := by omega
      rcases hst with ⟨hj0, fr, rfl, hsub⟩ | ⟨hjp, fr, v, rfl, hsub⟩
      · refine AWp.mask hsub ?_
        clear hsub
        have hk0 : turnsT ks = [] := List.eq_nil_of_length_eq_zero (by omega)
        have hl2 : look ((3, .box [.int .i64 k, .int .i64 o, .int .i64 n, .str s', nmv, .nilslice, .int .i64 p]) :: rest) 2 = some (.box zero25) := by rw [look_cons, if_neg (by decide)]; exact hr2
        have hfl : flat (.agg [.int .i64 k, .int .i64 o, .int .i64 n, .str s', nmv, .nilslice, .int .i64 p]) = true := by simp only [flat, ones, hone]; rfl
        repeat' (first
            | (show DOps _ _ _ _ _ _ _ _ _ _ _; first
                | refine D.end ?_
                | refine D.val (.inl rfl) rfl rfl rfl ?_
                | refine D.leave rfl rfl rfl rfl ?_
                | refine D.val (Wants.take rfl rfl) rfl rfl rfl ?_
                | refine (D.cmpF rfl (.inl rfl) rfl rfl rfl (decide_eq_false (by omega)) ?_)
                | refine D.cmp rfl (.inl rfl) rfl rfl rfl (fun _ => ?_) (fun _ => ?_)
                | refine D.valO (.inl rfl) rfl rfl rfl rfl ?_
                | refine D.build (.inl rfl) rfl rfl rfl rfl rfl rfl rfl ?_
                | refine D.buildSlice (.inl rfl) rfl rfl rfl rfl rfl rfl rfl rfl rfl ?_
                | refine (D.cmpF rfl (Wants.take rfl rfl) rfl rfl rfl (decide_eq_false (by omega)) ?_)
                | refine D.cmp rfl (Wants.take rfl rfl) rfl rfl rfl (fun _ => ?_) (fun _ => ?_)
                | refine D.valO (Wants.take rfl rfl) rfl rfl rfl rfl ?_
                | refine D.build (Wants.take rfl rfl) rfl rfl rfl rfl rfl rfl rfl ?_
                | refine D.buildSlice (Wants.take rfl rfl) rfl rfl rfl rfl rfl rfl rfl rfl rfl ?_)
            | (show AOps _ _ _ _ _ _; first
                | refine AOps.nil ?_
                | refine AOps.plain rfl (W.pure rfl rfl rfl ?_)
                | refine AOps.plain rfl (W.cmpF rfl rfl rfl rfl (decide_eq_false (by omega)) ?_)
                | refine AOps.plain rfl (W.storeL rfl rfl rfl hl2 rfl rfl hfl rfl rfl ?_)
                | refine AOps.plain rfl (W.cmp rfl rfl rfl rfl (fun _ => ?_) (fun _ => ?_))
                | refine W.leave rfl rfl rfl rfl ?_
                | refine AOps.take rfl rfl (W.pure rfl rfl rfl ?_)
                | refine AOps.take rfl rfl (W.cmpF rfl rfl rfl rfl (decide_eq_false (by omega)) ?_)
                | refine AOps.take rfl rfl (W.storeL rfl rfl rfl hl2 rfl rfl hfl rfl rfl ?_)
                | refine AOps.take rfl rfl (W.cmp rfl rfl rfl rfl (fun _ => ?_) (fun _ => ?_))
                | refine AOps.plain rfl (W.boxI rfl rfl rfl rfl rfl rfl ?_)
                | refine AOps.plain rfl (W.build rfl rfl rfl rfl rfl rfl rfl ?_)
                | refine AOps.plain rfl (W.alloc rfl rfl rfl rfl rfl ?_)
                | refine AOps.plain rfl (W.storeL rfl rfl rfl rfl rfl rfl rfl rfl rfl ?_)
                | refine AOps.plain rfl (W.buildSlice rfl rfl rfl rfl rfl rfl rfl rfl rfl ?_))
            | (show AWp _ _ _ _ _; first
                | refine AWp.seq ?_
                | refine AWp.region ?_
                | refine AWp.condT rfl ?_
                | refine AWp.condF rfl ?_
                | refine AWp.skip ?_
                | refine AWp.block ?_
                | refine AWp.exit ?_
                | refine AWp.ret ?_
                | refine AWp.draw0 (by kernel_rfl) ?_)
            | refine AThen.normal ?_
            | refine AThen.exit ?_
            | refine AThen.ret ?_
            | refine AThen.pan ?_
            | refine AInBlock.pan ?_
            | refine AInBlock.normal ?_
            | refine AInBlock.ret ?_
            | refine AInBlock.same ?_
            | refine AInBlock.other rfl ?_)
        refine bodyQ.cell rfl rfl (Freeze.agg7 (Freeze.same rfl) (Freeze.same rfl) (Freeze.same rfl) (Freeze.same rfl) (hfz _ _ ?_) Freeze.nil (Freeze.same rfl)) ?_
        · intro t ht
          rw [look_cons, if_neg (by omega), look_cons, if_neg (by omega)]
        · rw [hk0]
          exact ⟨rfl, rfl⟩
      · refine AWp.mask hsub ?_
        clear hsub
        have hl2 : look ((3, .box [.int .i64 k, .int .i64 o, .int .i64 n, .str s', nmv, .mslice (.l 73) v j, .int .i64 p]) :: (73, .arr v 25 7 (rows ((turnsT ks).take j))) :: rest) 2 = some (.box zero25) := by
          rw [look_cons, if_neg (by decide), look_cons, if_neg (by decide)]; exact hr2
        have hfl : flat (.agg [.int .i64 k, .int .i64 o, .int .i64 n, .str s', nmv, .mslice (.l 73) v j, .int .i64 p]) = true := by simp only [flat, ones, hone]; rfl
        repeat' (first
            | (show DOps _ _ _ _ _ _ _ _ _ _ _; first
                | refine D.end ?_
                | refine D.val (.inl rfl) rfl rfl rfl ?_
                | refine D.leave rfl rfl rfl rfl ?_
                | refine D.val (Wants.take rfl rfl) rfl rfl rfl ?_
                | refine (D.cmpF rfl (.inl rfl) rfl rfl rfl (decide_eq_false (by omega)) ?_)
                | refine D.cmp rfl (.inl rfl) rfl rfl rfl (fun _ => ?_) (fun _ => ?_)
                | refine D.valO (.inl rfl) rfl rfl rfl rfl ?_
                | refine D.build (.inl rfl) rfl rfl rfl rfl rfl rfl rfl ?_
                | refine D.buildSlice (.inl rfl) rfl rfl rfl rfl rfl rfl rfl rfl rfl ?_
                | refine (D.cmpF rfl (Wants.take rfl rfl) rfl rfl rfl (decide_eq_false (by omega)) ?_)
                | refine D.cmp rfl (Wants.take rfl rfl) rfl rfl rfl (fun _ => ?_) (fun _ => ?_)
                | refine D.valO (Wants.take rfl rfl) rfl rfl rfl rfl ?_
                | refine D.build (Wants.take rfl rfl) rfl rfl rfl rfl rfl rfl rfl ?_
                | refine D.buildSlice (Wants.take rfl rfl) rfl rfl rfl rfl rfl rfl rfl rfl rfl ?_)
            | (show AOps _ _ _ _ _ _; first
                | refine AOps.nil ?_
                | refine AOps.plain rfl (W.pure rfl rfl rfl ?_)
                | refine AOps.plain rfl (W.cmpF rfl rfl rfl rfl (decide_eq_false (by omega)) ?_)
                | refine AOps.plain rfl (W.storeL rfl rfl rfl hl2 rfl rfl hfl rfl rfl ?_)
                | refine AOps.plain rfl (W.cmp rfl rfl rfl rfl (fun _ => ?_) (fun _ => ?_))
                | refine W.leave rfl rfl rfl rfl ?_
                | refine AOps.take rfl rfl (W.pure rfl rfl rfl ?_)
                | refine AOps.take rfl rfl (W.cmpF rfl rfl rfl rfl (decide_eq_false (by omega)) ?_)
                | refine AOps.take rfl rfl (W.storeL rfl rfl rfl hl2 rfl rfl hfl rfl rfl ?_)
                | refine AOps.take rfl rfl (W.cmp rfl rfl rfl rfl (fun _ => ?_) (fun _ => ?_))
                | refine AOps.plain rfl (W.boxI rfl rfl rfl rfl rfl rfl ?_)
                | refine AOps.plain rfl (W.build rfl rfl rfl rfl rfl rfl rfl ?_)
                | refine AOps.plain rfl (W.alloc rfl rfl rfl rfl rfl ?_)
                | refine AOps.plain rfl (W.storeL rfl rfl rfl rfl rfl rfl rfl rfl rfl ?_)
                | refine AOps.plain rfl (W.buildSlice rfl rfl rfl rfl rfl rfl rfl rfl rfl ?_))
            | (show AWp _ _ _ _ _; first
                | refine AWp.seq ?_
                | refine AWp.region ?_
                | refine AWp.condT rfl ?_
                | refine AWp.condF rfl ?_
                | refine AWp.skip ?_
                | refine AWp.block ?_
                | refine AWp.exit ?_
                | refine AWp.ret ?_
                | refine AWp.draw0 (by kernel_rfl) ?_)
            | refine AThen.normal ?_
            | refine AThen.exit ?_
            | refine AThen.ret ?_
            | refine AThen.pan ?_
            | refine AInBlock.pan ?_
            | refine AInBlock.normal ?_
            | refine AInBlock.ret ?_
            | refine AInBlock.same ?_
            | refine AInBlock.other rfl ?_)
        have htk : (turnsT ks).take j = turnsT ks := List.take_of_length_le (by omega)
        have hrl := rows_length (turnsT ks)
        refine bodyQ.cell rfl rfl (Freeze.agg7 (Freeze.same rfl) (Freeze.same rfl) (Freeze.same rfl) (Freeze.same rfl) (hfz _ _ ?_) (Freeze.slice rfl (rows_pures _) (by rw [htk]; omega) (by decide)) (Freeze.same rfl)) ?_
        · intro t ht
          rw [look_cons, if_neg (by omega), look_cons, if_neg (by omega), look_cons, if_neg (by omega)]
        · rw [htk, hjk, ← hlt']
          exact ⟨rfl, rfl⟩

end Go.Proofs.Ytceocfancfjdjaa
