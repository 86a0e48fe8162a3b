/- (D) The scopes: a name is declared, a list's declarations are gathered. No condition. -/
import Derived.Test.YtceocfancfjdjaaRefA
import Derived.Test.YtceocfancfjdjaaScZ
namespace Go.Proofs.Ytceocfancfjdjaa
open Go Go.RowKit
attribute [local irreducible] ACalls AOps AOp AWp AWpL AThen AInBlock bodyQ seq DOps

abbrev Ents := List (ByteArray × Int)
def faultV (f : Int × Int) : CV := .iface 44 (.agg [.int .i64 f.1, .int .i64 f.2])

def declE (es : Ents) (b : ByteArray) (p : Int) : Except (Int × Int) Ents :=
  match mget es b with
  | some _ => .error (p, 15)
  | none => if es.length = 24 then .error (p, 5) else .ok (es ++ [(b, (es.length : Int))])

set_option maxHeartbeats 1000000 in
theorem decl_ok (i : Nat) (es : Ents) (b : ByteArray) (p : Int) (M : List AObj) (hM : M[i]? = some (.map es)) :
    ACalls 29 [.map (.g i), .str b, .int .i64 p] M (fun r M' => match declE es b p with
      | .ok es' => r = .ret (.tuple []) ∧ M' = M.set i (.map es')
      | .error f => r = .pan (faultV f) ∧ M' = M) := by
  refine ACalls.of_body Try.func29 rfl rfl rfl ?_
  simp only [Try.ntmps29, frOf]
  cases hm : mget es b with
  | some x =>
    repeat' (first
        | (show DOps _ _ _ _ _ _ _ _ _ _ _; first
            | refine D.end ?_
            | refine D.val (.inl rfl) rfl rfl rfl ?_
            | refine D.leave rfl rfl rfl rfl ?_
            | refine D.val (Wants.take rfl rfl) rfl rfl rfl ?_
            | refine D.cmp rfl (.inl rfl) rfl rfl rfl (fun _ => ?_) (fun _ => ?_)
            | refine D.valO (.inl rfl) rfl rfl rfl rfl ?_
            | refine D.build (.inl rfl) rfl rfl rfl rfl rfl rfl rfl ?_
            | refine D.buildSlice (.inl rfl) rfl rfl rfl rfl rfl rfl rfl rfl rfl ?_
            | refine D.cmp rfl (Wants.take rfl rfl) rfl rfl rfl (fun _ => ?_) (fun _ => ?_)
            | refine D.valO (Wants.take rfl rfl) rfl rfl rfl rfl ?_
            | refine D.build (Wants.take rfl rfl) rfl rfl rfl rfl rfl rfl rfl ?_
            | refine D.buildSlice (Wants.take rfl rfl) rfl rfl rfl rfl rfl rfl rfl rfl rfl ?_)
        | (show AOps _ _ _ _ _ _; first
            | refine AOps.nil ?_
            | refine AOps.plain rfl (W.pure rfl rfl rfl ?_)
            | refine AOps.plain rfl (W.lookup rfl rfl hM rfl rfl rfl hm ?_)
            | refine AOps.plain rfl (W.panic rfl rfl ?_)
            | refine AOps.plain rfl (W.cmp rfl rfl rfl rfl (fun _ => ?_) (fun _ => ?_))
            | refine W.leave rfl rfl rfl rfl ?_
            | refine AOps.take rfl rfl (W.pure rfl rfl rfl ?_)
            | refine AOps.take rfl rfl (W.lookup rfl rfl hM rfl rfl rfl hm ?_)
            | refine AOps.take rfl rfl (W.panic rfl rfl ?_)
            | refine AOps.take rfl rfl (W.cmp rfl rfl rfl rfl (fun _ => ?_) (fun _ => ?_))
            | refine AOps.plain rfl (W.boxI rfl rfl rfl rfl rfl rfl ?_)
            | refine AOps.plain rfl (W.build rfl rfl rfl rfl rfl rfl rfl ?_)
            | refine AOps.plain rfl (W.alloc rfl rfl rfl rfl rfl ?_)
            | refine AOps.plain rfl (W.storeL rfl rfl rfl rfl rfl rfl rfl rfl rfl ?_)
            | refine AOps.plain rfl (W.buildSlice rfl rfl rfl rfl rfl rfl rfl rfl rfl ?_))
        | (show AWp _ _ _ _ _; first
            | refine AWp.seq ?_
            | refine AWp.region ?_
            | refine AWp.condT rfl ?_
            | refine AWp.condF rfl ?_
            | refine AWp.skip ?_
            | refine AWp.block ?_
            | refine AWp.exit ?_
            | refine AWp.ret ?_
            | refine AWp.draw0 (by kernel_rfl) ?_)
        | refine AThen.normal ?_
        | refine AThen.exit ?_
        | refine AThen.ret ?_
        | refine AThen.pan ?_
        | refine AInBlock.pan ?_
        | refine AInBlock.normal ?_
        | refine AInBlock.ret ?_
        | refine AInBlock.same ?_
        | refine AInBlock.other rfl ?_)
    refine bodyQ.pan rfl ?_
    have : declE es b p = .error (p, 15) := by simp [declE, hm]
    rw [this]
    exact ⟨rfl, rfl⟩
  | none =>
    by_cases hl : es.length = 24
    · have hle : ((es.length : Int) == 24) = true := by rw [beq_iff_eq]; omega
      repeat' (first
          | (show DOps _ _ _ _ _ _ _ _ _ _ _; first
              | refine D.end ?_
              | refine D.val (.inl rfl) rfl rfl rfl ?_
              | refine D.leave rfl rfl rfl rfl ?_
              | refine D.val (Wants.take rfl rfl) rfl rfl rfl ?_
              | refine (D.cmpT rfl (.inl rfl) rfl rfl rfl (hle) ?_)
              | refine D.cmp rfl (.inl rfl) rfl rfl rfl (fun _ => ?_) (fun _ => ?_)
              | refine D.valO (.inl rfl) rfl rfl rfl rfl ?_
              | refine D.build (.inl rfl) rfl rfl rfl rfl rfl rfl rfl ?_
              | refine D.buildSlice (.inl rfl) rfl rfl rfl rfl rfl rfl rfl rfl rfl ?_
              | refine (D.cmpT rfl (Wants.take rfl rfl) rfl rfl rfl (hle) ?_)
              | refine D.cmp rfl (Wants.take rfl rfl) rfl rfl rfl (fun _ => ?_) (fun _ => ?_)
              | refine D.valO (Wants.take rfl rfl) rfl rfl rfl rfl ?_
              | refine D.build (Wants.take rfl rfl) rfl rfl rfl rfl rfl rfl rfl ?_
              | refine D.buildSlice (Wants.take rfl rfl) rfl rfl rfl rfl rfl rfl rfl rfl rfl ?_)
          | (show AOps _ _ _ _ _ _; first
              | refine AOps.nil ?_
              | refine AOps.plain rfl (W.pure rfl rfl rfl ?_)
              | refine AOps.plain rfl (W.lookup rfl rfl hM rfl rfl rfl hm ?_)
              | refine AOps.plain rfl (W.panic rfl rfl ?_)
              | refine AOps.plain rfl (W.lenMap rfl rfl hM rfl rfl ?_)
              | refine AOps.plain rfl (W.cmpT rfl rfl rfl rfl (hle) ?_)
              | refine AOps.plain rfl (W.cmp rfl rfl rfl rfl (fun _ => ?_) (fun _ => ?_))
              | refine W.leave rfl rfl rfl rfl ?_
              | refine AOps.take rfl rfl (W.pure rfl rfl rfl ?_)
              | refine AOps.take rfl rfl (W.lookup rfl rfl hM rfl rfl rfl hm ?_)
              | refine AOps.take rfl rfl (W.panic rfl rfl ?_)
              | refine AOps.take rfl rfl (W.lenMap rfl rfl hM rfl rfl ?_)
              | refine AOps.take rfl rfl (W.cmpT rfl rfl rfl rfl (hle) ?_)
              | refine AOps.take rfl rfl (W.cmp rfl rfl rfl rfl (fun _ => ?_) (fun _ => ?_))
              | refine AOps.plain rfl (W.boxI rfl rfl rfl rfl rfl rfl ?_)
              | refine AOps.plain rfl (W.build rfl rfl rfl rfl rfl rfl rfl ?_)
              | refine AOps.plain rfl (W.alloc rfl rfl rfl rfl rfl ?_)
              | refine AOps.plain rfl (W.storeL rfl rfl rfl rfl rfl rfl rfl rfl rfl ?_)
              | refine AOps.plain rfl (W.buildSlice rfl rfl rfl rfl rfl rfl rfl rfl rfl ?_))
          | (show AWp _ _ _ _ _; first
              | refine AWp.seq ?_
              | refine AWp.region ?_
              | refine AWp.condT rfl ?_
              | refine AWp.condF rfl ?_
              | refine AWp.skip ?_
              | refine AWp.block ?_
              | refine AWp.exit ?_
              | refine AWp.ret ?_
              | refine AWp.draw0 (by kernel_rfl) ?_)
          | refine AThen.normal ?_
          | refine AThen.exit ?_
          | refine AThen.ret ?_
          | refine AThen.pan ?_
          | refine AInBlock.pan ?_
          | refine AInBlock.normal ?_
          | refine AInBlock.ret ?_
          | refine AInBlock.same ?_
          | refine AInBlock.other rfl ?_)
      refine bodyQ.pan rfl ?_
      have : declE es b p = .error (p, 5) := by simp [declE, hm, hl]
      rw [this]
      exact ⟨rfl, rfl⟩
    · have hle : ((es.length : Int) == 24) = false := by rw [beq_eq_false_iff_ne]; omega
      repeat' (first
          | (show DOps _ _ _ _ _ _ _ _ _ _ _; first
              | refine D.end ?_
              | refine D.val (.inl rfl) rfl rfl rfl ?_
              | refine D.leave rfl rfl rfl rfl ?_
              | refine D.val (Wants.take rfl rfl) rfl rfl rfl ?_
              | refine (D.cmpF rfl (.inl rfl) rfl rfl rfl (hle) ?_)
              | refine D.cmp rfl (.inl rfl) rfl rfl rfl (fun _ => ?_) (fun _ => ?_)
              | refine D.valO (.inl rfl) rfl rfl rfl rfl ?_
              | refine D.build (.inl rfl) rfl rfl rfl rfl rfl rfl rfl ?_
              | refine D.buildSlice (.inl rfl) rfl rfl rfl rfl rfl rfl rfl rfl rfl ?_
              | refine (D.cmpF rfl (Wants.take rfl rfl) rfl rfl rfl (hle) ?_)
              | refine D.cmp rfl (Wants.take rfl rfl) rfl rfl rfl (fun _ => ?_) (fun _ => ?_)
              | refine D.valO (Wants.take rfl rfl) rfl rfl rfl rfl ?_
              | refine D.build (Wants.take rfl rfl) rfl rfl rfl rfl rfl rfl rfl ?_
              | refine D.buildSlice (Wants.take rfl rfl) rfl rfl rfl rfl rfl rfl rfl rfl rfl ?_)
          | (show AOps _ _ _ _ _ _; first
              | refine AOps.nil ?_
              | refine AOps.plain rfl (W.pure rfl rfl rfl ?_)
              | refine AOps.plain rfl (W.lookup rfl rfl hM rfl rfl rfl hm ?_)
              | refine AOps.plain rfl (W.lenMap rfl rfl hM rfl rfl ?_)
              | refine AOps.plain rfl (W.cmpF rfl rfl rfl rfl (hle) ?_)
              | refine AOps.plain rfl (W.mapNew rfl rfl rfl hM rfl rfl hm ?_)
              | refine AOps.plain rfl (W.cmp rfl rfl rfl rfl (fun _ => ?_) (fun _ => ?_))
              | refine W.leave rfl rfl rfl rfl ?_
              | refine AOps.take rfl rfl (W.pure rfl rfl rfl ?_)
              | refine AOps.take rfl rfl (W.lookup rfl rfl hM rfl rfl rfl hm ?_)
              | refine AOps.take rfl rfl (W.lenMap rfl rfl hM rfl rfl ?_)
              | refine AOps.take rfl rfl (W.cmpF rfl rfl rfl rfl (hle) ?_)
              | refine AOps.take rfl rfl (W.mapNew rfl rfl rfl hM rfl rfl hm ?_)
              | refine AOps.take rfl rfl (W.cmp rfl rfl rfl rfl (fun _ => ?_) (fun _ => ?_))
              | refine AOps.plain rfl (W.boxI rfl rfl rfl rfl rfl rfl ?_)
              | refine AOps.plain rfl (W.build rfl rfl rfl rfl rfl rfl rfl ?_)
              | refine AOps.plain rfl (W.alloc rfl rfl rfl rfl rfl ?_)
              | refine AOps.plain rfl (W.storeL rfl rfl rfl rfl rfl rfl rfl rfl rfl ?_)
              | refine AOps.plain rfl (W.buildSlice rfl rfl rfl rfl rfl rfl rfl rfl rfl ?_))
          | (show AWp _ _ _ _ _; first
              | refine AWp.seq ?_
              | refine AWp.region ?_
              | refine AWp.condT rfl ?_
              | refine AWp.condF rfl ?_
              | refine AWp.skip ?_
              | refine AWp.block ?_
              | refine AWp.exit ?_
              | refine AWp.ret ?_
              | refine AWp.draw0 (by kernel_rfl) ?_)
          | refine AThen.normal ?_
          | refine AThen.exit ?_
          | refine AThen.ret ?_
          | refine AThen.pan ?_
          | refine AInBlock.pan ?_
          | refine AInBlock.normal ?_
          | refine AInBlock.ret ?_
          | refine AInBlock.same ?_
          | refine AInBlock.other rfl ?_)
      refine bodyQ.none rfl ?_
      simp [declE, hm, hl]

mutual
def letsT : Ents → Tree → Except (Int × Int) Ents
  | es, .mk k _ _ s _ ks p => if k = 21 then declE es s p else if k = 28 ∨ k = 30 ∨ k = 29 then letsL es ks else .ok es
def letsL : Ents → List Tree → Except (Int × Int) Ents
  | es, [] => .ok es
  | es, t :: r => match letsT es t with
    | .ok es' => letsL es' r
    | .error f => .error f
end

theorem letsL_drop (es : Ents) (l : List Tree) {j : Nat} (h : j < l.length) : letsL es (l.drop j) = match letsT es l[j] with
    | .ok es' => letsL es' (l.drop (j + 1))
    | .error f => .error f := by
  rw [List.drop_eq_getElem_cons h]
  simp only [letsL]

def letsQ (i : Nat) (M : List AObj) (res : Except (Int × Int) Ents) (r : ARes) (M' : List AObj) : Prop :=
  match res with
  | .ok es' => r = .ret (.tuple []) ∧ M' = M.set i (.map es')
  | .error f => r = .pan (faultV f) ∧ ∃ es', M' = M.set i (.map es')

theorem set_set {M : List AObj} {i : Nat} {x y : AObj} : (M.set i x).set i y = M.set i y := by simp
theorem set_self {M : List AObj} {i : Nat} {x : AObj} (h : M[i]? = some x) : M.set i x = M := by
  have hi : i < M.length := (List.getElem?_eq_some_iff.1 h).1
  have hx : M[i] = x := by rw [List.getElem?_eq_getElem hi] at h; exact Option.some.inj h
  rw [← hx]
  exact List.set_getElem_self hi
theorem set_at {M : List AObj} {i : Nat} {x y : AObj} (h : M[i]? = some x) : (M.set i y)[i]? = some y := by
  have : i < M.length := (List.getElem?_eq_some_iff.1 h).1
  simp [this]

set_option maxHeartbeats 4000000 in
theorem lets_ok (i : Nat) (t : Tree) : ∀ (es : Ents) (M : List AObj), M[i]? = some (.map es) → smalls t.kids → t.kids.length < 281474976710656 →
    ACalls 18 [.map (.g i), .islice (rows t.kids) t.kids.length] M (letsQ i M (letsL es t.kids)) := by
  induction t using Tree.ind with
  | h k0 o0 n0 s0 ns0 ks p0 ih =>
    intro es M hM hsm hlen
    simp only [Tree.kids] at hsm hlen ⊢
    refine ACalls.of_body Try.func18 rfl rfl rfl ?_
    simp only [Try.ntmps18, frOf]
    repeat' (first
        | (show DOps _ _ _ _ _ _ _ _ _ _ _; first
            | refine D.end ?_
            | refine D.val (.inl rfl) rfl rfl rfl ?_
            | refine D.leave rfl rfl rfl rfl ?_
            | refine D.val (Wants.take rfl rfl) rfl rfl rfl ?_
            | refine D.cmp rfl (.inl rfl) rfl rfl rfl (fun _ => ?_) (fun _ => ?_)
            | refine D.valO (.inl rfl) rfl rfl rfl rfl ?_
            | refine D.build (.inl rfl) rfl rfl rfl rfl rfl rfl rfl ?_
            | refine D.buildSlice (.inl rfl) rfl rfl rfl rfl rfl rfl rfl rfl rfl ?_
            | refine D.cmp rfl (Wants.take rfl rfl) rfl rfl rfl (fun _ => ?_) (fun _ => ?_)
            | refine D.valO (Wants.take rfl rfl) rfl rfl rfl rfl ?_
            | refine D.build (Wants.take rfl rfl) rfl rfl rfl rfl rfl rfl rfl ?_
            | refine D.buildSlice (Wants.take rfl rfl) rfl rfl rfl rfl rfl rfl rfl rfl rfl ?_)
        | (show AOps _ _ _ _ _ _; first
            | refine AOps.nil ?_
            | refine AOps.plain rfl (W.pure rfl rfl rfl ?_)
            | refine AOps.plain rfl (W.cmp rfl rfl rfl rfl (fun _ => ?_) (fun _ => ?_))
            | refine W.leave rfl rfl rfl rfl ?_
            | refine AOps.take rfl rfl (W.pure rfl rfl rfl ?_)
            | refine AOps.take rfl rfl (W.cmp rfl rfl rfl rfl (fun _ => ?_) (fun _ => ?_))
            | refine AOps.plain rfl (W.boxI rfl rfl rfl rfl rfl rfl ?_)
            | refine AOps.plain rfl (W.build rfl rfl rfl rfl rfl rfl rfl ?_)
            | refine AOps.plain rfl (W.alloc rfl rfl rfl rfl rfl ?_)
            | refine AOps.plain rfl (W.storeL rfl rfl rfl rfl rfl rfl rfl rfl rfl ?_)
            | refine AOps.plain rfl (W.buildSlice rfl rfl rfl rfl rfl rfl rfl rfl rfl ?_))
        | (show AWp _ _ _ _ _; first
            | refine AWp.seq ?_
            | refine AWp.region ?_
            | refine AWp.condT rfl ?_
            | refine AWp.condF rfl ?_
            | refine AWp.skip ?_
            | refine AWp.block ?_
            | refine AWp.exit ?_
            | refine AWp.ret ?_
            | refine AWp.draw0 (by kernel_rfl) ?_)
        | refine AThen.normal ?_
        | refine AThen.exit ?_
        | refine AThen.ret ?_
        | refine AThen.pan ?_
        | refine AInBlock.pan ?_
        | refine AInBlock.normal ?_
        | refine AInBlock.ret ?_
        | refine AInBlock.same ?_
        | refine AInBlock.other rfl ?_)
    refine AWp.loop ?_
    refine AWpL.upto (fun j st => ∃ ej : Ents, letsL es ks = letsL ej (ks.drop j) ∧
      ∃ fr, st = { fr := fr, loc := [], M := M.set i (.map ej), ds := [] } ∧ Sub fr [(0, .map (.g i)), (6, .islice (rows ks) ks.length), (7, .int .i64 (ks.length : Int)), (8, .int .i64 (j : Int))]) ks.length ?_ 0 _ (Nat.zero_le _)
      ⟨es, rfl, _, by rw [set_self hM], rfl, rfl, rfl, rfl, trivial⟩
    rintro j st hj ⟨ej, hpre, fr, rfl, hsub⟩ hnext
    refine AWp.mask hsub ?_
    clear hsub
    have hMj : (M.set i (.map ej))[i]? = some (.map ej) := set_at hM
    by_cases hlt : j < ks.length
    · have hst := letsL_drop ej ks hlt
      have hkid := ld_kid hlt
      have hmem := smalls_mem hsm (List.getElem_mem hlt)
      have hih0 := ih ks[j] (List.getElem_mem hlt) ej _ hMj
      cases hkj : ks[j] with
      | mk k o n s ns ks2 p =>
        rw [hkj] at hst hkid hmem hih0
        have hih1 := hih0 hmem.2.2.2.2 hmem.2.2.1
        clear hih0
        simp only [Tree.kids] at hih1
        have next : ∀ (es' : Ents) (fr : List (Nat × CV)) (loc : List (Nat × AObj)) (M1 : List AObj), letsT ej (Tree.mk k o n s ns ks2 p) = .ok es' → M1 = M.set i (.map es') →
            Sub fr [(0, .map (.g i)), (6, .islice (rows ks) ks.length), (7, .int .i64 (ks.length : Int)), (8, .int .i64 ((j + 1 : Nat) : Int))] → AWpL _ _ _ _ { fr := fr, loc := loc, M := M1, ds := [] } :=
          fun es' fr loc M1 h1 h2 h3 => by
            subst h2
            exact AWpL.fresh h3 rfl (hnext.out _ hlt ⟨es', by rw [hpre, hst, h1], _, rfl, rfl, rfl, rfl, rfl, trivial⟩)
        clear hnext ih
        by_cases h21 : k = 21
        · subst h21
          have hcall := decl_ok i ej s p _ hMj
          cases hd : declE ej s p with
          | ok es' =>
            simp only [hd] at hcall
            repeat' (first
                | (show DOps _ _ _ _ _ _ _ _ _ _ _; first
                    | refine D.end ?_
                    | refine D.val (.inl rfl) rfl rfl rfl ?_
                    | refine D.leave rfl rfl rfl rfl ?_
                    | refine D.val (Wants.take rfl rfl) rfl rfl rfl ?_
                    | refine (D.cmpT rfl (.inl rfl) rfl rfl rfl (decide_eq_true (by omega)) ?_)
                    | refine D.cmp rfl (.inl rfl) rfl rfl rfl (fun _ => ?_) (fun _ => ?_)
                    | refine D.valO (.inl rfl) rfl rfl rfl rfl ?_
                    | refine D.build (.inl rfl) rfl rfl rfl rfl rfl rfl rfl ?_
                    | refine D.buildSlice (.inl rfl) rfl rfl rfl rfl rfl rfl rfl rfl rfl ?_
                    | refine (D.cmpT rfl (Wants.take rfl rfl) rfl rfl rfl (decide_eq_true (by omega)) ?_)
                    | refine D.cmp rfl (Wants.take rfl rfl) rfl rfl rfl (fun _ => ?_) (fun _ => ?_)
                    | refine D.valO (Wants.take rfl rfl) rfl rfl rfl rfl ?_
                    | refine D.build (Wants.take rfl rfl) rfl rfl rfl rfl rfl rfl rfl ?_
                    | refine D.buildSlice (Wants.take rfl rfl) rfl rfl rfl rfl rfl rfl rfl rfl rfl ?_)
                | (show AOps _ _ _ _ _ _; first
                    | refine AOps.nil ?_
                    | refine AOps.plain rfl (W.pure rfl rfl rfl ?_)
                    | refine AOps.plain rfl (W.cmpT rfl rfl rfl rfl (decide_eq_true (by omega)) ?_)
                    | refine AOps.plain rfl (W.indexAddr rfl rfl rfl rfl rfl rfl (by omega) (by omega) (rows_ne hlt) ?_)
                    | refine AOps.plain rfl (W.loadRow rfl rfl rfl rfl hkid ?_)
                    | refine AOps.plain rfl (W.callR rfl rfl rfl rfl rfl hcall rfl rfl rfl ?_)
                    | refine AOps.plain rfl (W.cmp rfl rfl rfl rfl (fun _ => ?_) (fun _ => ?_))
                    | refine W.leave rfl rfl rfl rfl ?_
                    | refine AOps.take rfl rfl (W.pure rfl rfl rfl ?_)
                    | refine AOps.take rfl rfl (W.cmpT rfl rfl rfl rfl (decide_eq_true (by omega)) ?_)
                    | refine AOps.take rfl rfl (W.indexAddr rfl rfl rfl rfl rfl rfl (by omega) (by omega) (rows_ne hlt) ?_)
                    | refine AOps.take rfl rfl (W.loadRow rfl rfl rfl rfl hkid ?_)
                    | refine AOps.take rfl rfl (W.callR rfl rfl rfl rfl rfl hcall rfl rfl rfl ?_)
                    | refine AOps.take rfl rfl (W.cmp rfl rfl rfl rfl (fun _ => ?_) (fun _ => ?_))
                    | refine AOps.plain rfl (W.boxI rfl rfl rfl rfl rfl rfl ?_)
                    | refine AOps.plain rfl (W.build rfl rfl rfl rfl rfl rfl rfl ?_)
                    | refine AOps.plain rfl (W.alloc rfl rfl rfl rfl rfl ?_)
                    | refine AOps.plain rfl (W.storeL rfl rfl rfl rfl rfl rfl rfl rfl rfl ?_)
                    | refine AOps.plain rfl (W.buildSlice rfl rfl rfl rfl rfl rfl rfl rfl rfl ?_))
                | (show AWp _ _ _ _ _; first
                    | refine AWp.seq ?_
                    | refine AWp.region ?_
                    | refine AWp.condT rfl ?_
                    | refine AWp.condF rfl ?_
                    | refine AWp.skip ?_
                    | refine AWp.block ?_
                    | refine AWp.exit ?_
                    | refine AWp.ret ?_
                    | refine AWp.draw0 (by kernel_rfl) ?_)
                | refine AThen.normal ?_
                | refine AThen.exit ?_
                | refine AThen.ret ?_
                | refine AThen.pan ?_
                | refine AInBlock.pan ?_
                | refine AInBlock.normal ?_
                | refine AInBlock.ret ?_
                | refine AInBlock.same ?_
                | refine AInBlock.other rfl ?_)
            exact next es' _ _ _ (by simp [letsT, hd]) set_set ⟨rfl, rfl, rfl, subInt (wrapAdd (by omega) (by omega)), trivial⟩
          | error f =>
            simp only [hd] at hcall
            repeat' (first
                | (show DOps _ _ _ _ _ _ _ _ _ _ _; first
                    | refine D.end ?_
                    | refine D.val (.inl rfl) rfl rfl rfl ?_
                    | refine D.leave rfl rfl rfl rfl ?_
                    | refine D.val (Wants.take rfl rfl) rfl rfl rfl ?_
                    | refine (D.cmpT rfl (.inl rfl) rfl rfl rfl (decide_eq_true (by omega)) ?_)
                    | refine D.cmp rfl (.inl rfl) rfl rfl rfl (fun _ => ?_) (fun _ => ?_)
                    | refine D.valO (.inl rfl) rfl rfl rfl rfl ?_
                    | refine D.build (.inl rfl) rfl rfl rfl rfl rfl rfl rfl ?_
                    | refine D.buildSlice (.inl rfl) rfl rfl rfl rfl rfl rfl rfl rfl rfl ?_
                    | refine (D.cmpT rfl (Wants.take rfl rfl) rfl rfl rfl (decide_eq_true (by omega)) ?_)
                    | refine D.cmp rfl (Wants.take rfl rfl) rfl rfl rfl (fun _ => ?_) (fun _ => ?_)
                    | refine D.valO (Wants.take rfl rfl) rfl rfl rfl rfl ?_
                    | refine D.build (Wants.take rfl rfl) rfl rfl rfl rfl rfl rfl rfl ?_
                    | refine D.buildSlice (Wants.take rfl rfl) rfl rfl rfl rfl rfl rfl rfl rfl rfl ?_)
                | (show AOps _ _ _ _ _ _; first
                    | refine AOps.nil ?_
                    | refine AOps.plain rfl (W.pure rfl rfl rfl ?_)
                    | refine AOps.plain rfl (W.cmpT rfl rfl rfl rfl (decide_eq_true (by omega)) ?_)
                    | refine AOps.plain rfl (W.indexAddr rfl rfl rfl rfl rfl rfl (by omega) (by omega) (rows_ne hlt) ?_)
                    | refine AOps.plain rfl (W.loadRow rfl rfl rfl rfl hkid ?_)
                    | refine AOps.plain rfl (W.callP rfl rfl rfl rfl rfl hcall rfl rfl (fun M' hM' => ?_))
                    | refine AOps.plain rfl (W.cmp rfl rfl rfl rfl (fun _ => ?_) (fun _ => ?_))
                    | refine W.leave rfl rfl rfl rfl ?_
                    | refine AOps.take rfl rfl (W.pure rfl rfl rfl ?_)
                    | refine AOps.take rfl rfl (W.cmpT rfl rfl rfl rfl (decide_eq_true (by omega)) ?_)
                    | refine AOps.take rfl rfl (W.indexAddr rfl rfl rfl rfl rfl rfl (by omega) (by omega) (rows_ne hlt) ?_)
                    | refine AOps.take rfl rfl (W.loadRow rfl rfl rfl rfl hkid ?_)
                    | refine AOps.take rfl rfl (W.callP rfl rfl rfl rfl rfl hcall rfl rfl (fun M' hM' => ?_))
                    | refine AOps.take rfl rfl (W.cmp rfl rfl rfl rfl (fun _ => ?_) (fun _ => ?_))
                    | refine AOps.plain rfl (W.boxI rfl rfl rfl rfl rfl rfl ?_)
                    | refine AOps.plain rfl (W.build rfl rfl rfl rfl rfl rfl rfl ?_)
                    | refine AOps.plain rfl (W.alloc rfl rfl rfl rfl rfl ?_)
                    | refine AOps.plain rfl (W.storeL rfl rfl rfl rfl rfl rfl rfl rfl rfl ?_)
                    | refine AOps.plain rfl (W.buildSlice rfl rfl rfl rfl rfl rfl rfl rfl rfl ?_))
                | (show AWp _ _ _ _ _; first
                    | refine AWp.seq ?_
                    | refine AWp.region ?_
                    | refine AWp.condT rfl ?_
                    | refine AWp.condF rfl ?_
                    | refine AWp.skip ?_
                    | refine AWp.block ?_
                    | refine AWp.exit ?_
                    | refine AWp.ret ?_
                    | refine AWp.draw0 (by kernel_rfl) ?_)
                | refine AThen.normal ?_
                | refine AThen.exit ?_
                | refine AThen.ret ?_
                | refine AThen.pan ?_
                | refine AInBlock.pan ?_
                | refine AInBlock.normal ?_
                | refine AInBlock.ret ?_
                | refine AInBlock.same ?_
                | refine AInBlock.other rfl ?_)
            refine bodyQ.pan rfl ?_
            have : letsL es ks = .error f := by rw [hpre, hst]; simp [letsT, hd]
            rw [this]
            exact ⟨rfl, ej, hM'⟩
        · have h21f : (k == 21) = false := by rw [beq_eq_false_iff_ne]; exact h21
          by_cases hb : k = 28 ∨ k = 30 ∨ k = 29
          · have hlt' : letsT ej (Tree.mk k o n s ns ks2 p) = letsL ej ks2 := by simp only [letsT, h21, hb, if_false, if_true]
            cases hd : letsL ej ks2 with
            | ok es' =>
              rw [hd] at hih1
              have hih := ACalls.mono (QQ' := fun r M' => r = .ret (.tuple []) ∧ M' = (M.set i (.map ej)).set i (.map es')) hih1 (fun r M' h => h)
              clear hih1
              rcases hb with rfl | rfl | rfl
              all_goals repeat' (first
                  | (show DOps _ _ _ _ _ _ _ _ _ _ _; first
                      | refine D.end ?_
                      | refine D.val (.inl rfl) rfl rfl rfl ?_
                      | refine D.leave rfl rfl rfl rfl ?_
                      | refine D.val (Wants.take rfl rfl) rfl rfl rfl ?_
                      | refine (D.cmpT rfl (.inl rfl) rfl rfl rfl (decide_eq_true (by omega)) ?_)
                      | refine D.cmp rfl (.inl rfl) rfl rfl rfl (fun _ => ?_) (fun _ => ?_)
                      | refine D.valO (.inl rfl) rfl rfl rfl rfl ?_
                      | refine D.build (.inl rfl) rfl rfl rfl rfl rfl rfl rfl ?_
                      | refine D.buildSlice (.inl rfl) rfl rfl rfl rfl rfl rfl rfl rfl rfl ?_
                      | refine (D.cmpT rfl (Wants.take rfl rfl) rfl rfl rfl (decide_eq_true (by omega)) ?_)
                      | refine D.cmp rfl (Wants.take rfl rfl) rfl rfl rfl (fun _ => ?_) (fun _ => ?_)
                      | refine D.valO (Wants.take rfl rfl) rfl rfl rfl rfl ?_
                      | refine D.build (Wants.take rfl rfl) rfl rfl rfl rfl rfl rfl rfl ?_
                      | refine D.buildSlice (Wants.take rfl rfl) rfl rfl rfl rfl rfl rfl rfl rfl rfl ?_)
                  | (show AOps _ _ _ _ _ _; first
                      | refine AOps.nil ?_
                      | refine AOps.plain rfl (W.pure rfl rfl rfl ?_)
                      | refine AOps.plain rfl (W.cmpT rfl rfl rfl rfl (decide_eq_true (by omega)) ?_)
                      | refine AOps.plain rfl (W.indexAddr rfl rfl rfl rfl rfl rfl (by omega) (by omega) (rows_ne hlt) ?_)
                      | refine AOps.plain rfl (W.loadRow rfl rfl rfl rfl hkid ?_)
                      | refine AOps.plain rfl (W.callR rfl rfl rfl rfl rfl hih rfl rfl rfl ?_)
                      | refine AOps.plain rfl (W.cmp rfl rfl rfl rfl (fun _ => ?_) (fun _ => ?_))
                      | refine W.leave rfl rfl rfl rfl ?_
                      | refine AOps.take rfl rfl (W.pure rfl rfl rfl ?_)
                      | refine AOps.take rfl rfl (W.cmpT rfl rfl rfl rfl (decide_eq_true (by omega)) ?_)
                      | refine AOps.take rfl rfl (W.indexAddr rfl rfl rfl rfl rfl rfl (by omega) (by omega) (rows_ne hlt) ?_)
                      | refine AOps.take rfl rfl (W.loadRow rfl rfl rfl rfl hkid ?_)
                      | refine AOps.take rfl rfl (W.callR rfl rfl rfl rfl rfl hih rfl rfl rfl ?_)
                      | refine AOps.take rfl rfl (W.cmp rfl rfl rfl rfl (fun _ => ?_) (fun _ => ?_))
                      | refine AOps.plain rfl (W.boxI rfl rfl rfl rfl rfl rfl ?_)
                      | refine AOps.plain rfl (W.build rfl rfl rfl rfl rfl rfl rfl ?_)
                      | refine AOps.plain rfl (W.alloc rfl rfl rfl rfl rfl ?_)
                      | refine AOps.plain rfl (W.storeL rfl rfl rfl rfl rfl rfl rfl rfl rfl ?_)
                      | refine AOps.plain rfl (W.buildSlice rfl rfl rfl rfl rfl rfl rfl rfl rfl ?_))
                  | (show AWp _ _ _ _ _; first
                      | refine AWp.seq ?_
                      | refine AWp.region ?_
                      | refine AWp.condT rfl ?_
                      | refine AWp.condF rfl ?_
                      | refine AWp.skip ?_
                      | refine AWp.block ?_
                      | refine AWp.exit ?_
                      | refine AWp.ret ?_
                      | refine AWp.draw0 (by kernel_rfl) ?_)
                  | refine AThen.normal ?_
                  | refine AThen.exit ?_
                  | refine AThen.ret ?_
                  | refine AThen.pan ?_
                  | refine AInBlock.pan ?_
                  | refine AInBlock.normal ?_
                  | refine AInBlock.ret ?_
                  | refine AInBlock.same ?_
                  | refine AInBlock.other rfl ?_)
              all_goals exact next es' _ _ _ (by rw [hlt', hd]) set_set ⟨rfl, rfl, rfl, subInt (wrapAdd (by omega) (by omega)), trivial⟩
            | error f =>
              rw [hd] at hih1
              have hih := ACalls.mono (QQ' := fun r M' => r = .pan (faultV f) ∧ ∃ es', M' = (M.set i (.map ej)).set i (.map es')) hih1 (fun r M' h => h)
              clear hih1
              rcases hb with rfl | rfl | rfl
              all_goals repeat' (first
                  | (show DOps _ _ _ _ _ _ _ _ _ _ _; first
                      | refine D.end ?_
                      | refine D.val (.inl rfl) rfl rfl rfl ?_
                      | refine D.leave rfl rfl rfl rfl ?_
                      | refine D.val (Wants.take rfl rfl) rfl rfl rfl ?_
                      | refine (D.cmpT rfl (.inl rfl) rfl rfl rfl (decide_eq_true (by omega)) ?_)
                      | refine D.cmp rfl (.inl rfl) rfl rfl rfl (fun _ => ?_) (fun _ => ?_)
                      | refine D.valO (.inl rfl) rfl rfl rfl rfl ?_
                      | refine D.build (.inl rfl) rfl rfl rfl rfl rfl rfl rfl ?_
                      | refine D.buildSlice (.inl rfl) rfl rfl rfl rfl rfl rfl rfl rfl rfl ?_
                      | refine (D.cmpT rfl (Wants.take rfl rfl) rfl rfl rfl (decide_eq_true (by omega)) ?_)
                      | refine D.cmp rfl (Wants.take rfl rfl) rfl rfl rfl (fun _ => ?_) (fun _ => ?_)
                      | refine D.valO (Wants.take rfl rfl) rfl rfl rfl rfl ?_
                      | refine D.build (Wants.take rfl rfl) rfl rfl rfl rfl rfl rfl rfl ?_
                      | refine D.buildSlice (Wants.take rfl rfl) rfl rfl rfl rfl rfl rfl rfl rfl rfl ?_)
                  | (show AOps _ _ _ _ _ _; first
                      | refine AOps.nil ?_
                      | refine AOps.plain rfl (W.pure rfl rfl rfl ?_)
                      | refine AOps.plain rfl (W.cmpT rfl rfl rfl rfl (decide_eq_true (by omega)) ?_)
                      | refine AOps.plain rfl (W.indexAddr rfl rfl rfl rfl rfl rfl (by omega) (by omega) (rows_ne hlt) ?_)
                      | refine AOps.plain rfl (W.loadRow rfl rfl rfl rfl hkid ?_)
                      | refine AOps.plain rfl (W.callP rfl rfl rfl rfl rfl hih rfl rfl (fun M' hM' => ?_))
                      | refine AOps.plain rfl (W.cmp rfl rfl rfl rfl (fun _ => ?_) (fun _ => ?_))
                      | refine W.leave rfl rfl rfl rfl ?_
                      | refine AOps.take rfl rfl (W.pure rfl rfl rfl ?_)
                      | refine AOps.take rfl rfl (W.cmpT rfl rfl rfl rfl (decide_eq_true (by omega)) ?_)
                      | refine AOps.take rfl rfl (W.indexAddr rfl rfl rfl rfl rfl rfl (by omega) (by omega) (rows_ne hlt) ?_)
                      | refine AOps.take rfl rfl (W.loadRow rfl rfl rfl rfl hkid ?_)
                      | refine AOps.take rfl rfl (W.callP rfl rfl rfl rfl rfl hih rfl rfl (fun M' hM' => ?_))
                      | refine AOps.take rfl rfl (W.cmp rfl rfl rfl rfl (fun _ => ?_) (fun _ => ?_))
                      | refine AOps.plain rfl (W.boxI rfl rfl rfl rfl rfl rfl ?_)
                      | refine AOps.plain rfl (W.build rfl rfl rfl rfl rfl rfl rfl ?_)
                      | refine AOps.plain rfl (W.alloc rfl rfl rfl rfl rfl ?_)
                      | refine AOps.plain rfl (W.storeL rfl rfl rfl rfl rfl rfl rfl rfl rfl ?_)
                      | refine AOps.plain rfl (W.buildSlice rfl rfl rfl rfl rfl rfl rfl rfl rfl ?_))
                  | (show AWp _ _ _ _ _; first
                      | refine AWp.seq ?_
                      | refine AWp.region ?_
                      | refine AWp.condT rfl ?_
                      | refine AWp.condF rfl ?_
                      | refine AWp.skip ?_
                      | refine AWp.block ?_
                      | refine AWp.exit ?_
                      | refine AWp.ret ?_
                      | refine AWp.draw0 (by kernel_rfl) ?_)
                  | refine AThen.normal ?_
                  | refine AThen.exit ?_
                  | refine AThen.ret ?_
                  | refine AThen.pan ?_
                  | refine AInBlock.pan ?_
                  | refine AInBlock.normal ?_
                  | refine AInBlock.ret ?_
                  | refine AInBlock.same ?_
                  | refine AInBlock.other rfl ?_)
              all_goals refine bodyQ.pan rfl ?_
              all_goals have : letsL es ks = .error f := by rw [hpre, hst, hlt', hd]
              all_goals rw [this]
              all_goals obtain ⟨es', hM'⟩ := hM'
              all_goals exact ⟨rfl, es', by rw [hM', set_set]⟩
          · have h28 : (k == 28) = false := by rw [beq_eq_false_iff_ne]; omega
            have h30 : (k == 30) = false := by rw [beq_eq_false_iff_ne]; omega
            have h29 : (k == 29) = false := by rw [beq_eq_false_iff_ne]; omega
            repeat' (first
                | (show DOps _ _ _ _ _ _ _ _ _ _ _; first
                    | refine D.end ?_
                    | refine D.val (.inl rfl) rfl rfl rfl ?_
                    | refine D.leave rfl rfl rfl rfl ?_
                    | refine D.val (Wants.take rfl rfl) rfl rfl rfl ?_
                    | refine (D.cmpT rfl (.inl rfl) rfl rfl rfl (decide_eq_true (by omega)) ?_)
                    | refine (D.cmpF rfl (.inl rfl) rfl rfl rfl (h21f) ?_)
                    | refine (D.cmpF rfl (.inl rfl) rfl rfl rfl (h28) ?_)
                    | refine (D.cmpF rfl (.inl rfl) rfl rfl rfl (h30) ?_)
                    | refine (D.cmpF rfl (.inl rfl) rfl rfl rfl (h29) ?_)
                    | refine D.cmp rfl (.inl rfl) rfl rfl rfl (fun _ => ?_) (fun _ => ?_)
                    | refine D.valO (.inl rfl) rfl rfl rfl rfl ?_
                    | refine D.build (.inl rfl) rfl rfl rfl rfl rfl rfl rfl ?_
                    | refine D.buildSlice (.inl rfl) rfl rfl rfl rfl rfl rfl rfl rfl rfl ?_
                    | refine (D.cmpT rfl (Wants.take rfl rfl) rfl rfl rfl (decide_eq_true (by omega)) ?_)
                    | refine (D.cmpF rfl (Wants.take rfl rfl) rfl rfl rfl (h21f) ?_)
                    | refine (D.cmpF rfl (Wants.take rfl rfl) rfl rfl rfl (h28) ?_)
                    | refine (D.cmpF rfl (Wants.take rfl rfl) rfl rfl rfl (h30) ?_)
                    | refine (D.cmpF rfl (Wants.take rfl rfl) rfl rfl rfl (h29) ?_)
                    | refine D.cmp rfl (Wants.take rfl rfl) rfl rfl rfl (fun _ => ?_) (fun _ => ?_)
                    | refine D.valO (Wants.take rfl rfl) rfl rfl rfl rfl ?_
                    | refine D.build (Wants.take rfl rfl) rfl rfl rfl rfl rfl rfl rfl ?_
                    | refine D.buildSlice (Wants.take rfl rfl) rfl rfl rfl rfl rfl rfl rfl rfl rfl ?_)
                | (show AOps _ _ _ _ _ _; first
                    | refine AOps.nil ?_
                    | refine AOps.plain rfl (W.pure rfl rfl rfl ?_)
                    | refine AOps.plain rfl (W.cmpT rfl rfl rfl rfl (decide_eq_true (by omega)) ?_)
                    | refine AOps.plain rfl (W.cmpF rfl rfl rfl rfl (h21f) ?_)
                    | refine AOps.plain rfl (W.cmpF rfl rfl rfl rfl (h28) ?_)
                    | refine AOps.plain rfl (W.cmpF rfl rfl rfl rfl (h30) ?_)
                    | refine AOps.plain rfl (W.cmpF rfl rfl rfl rfl (h29) ?_)
                    | refine AOps.plain rfl (W.indexAddr rfl rfl rfl rfl rfl rfl (by omega) (by omega) (rows_ne hlt) ?_)
                    | refine AOps.plain rfl (W.loadRow rfl rfl rfl rfl hkid ?_)
                    | refine AOps.plain rfl (W.cmp rfl rfl rfl rfl (fun _ => ?_) (fun _ => ?_))
                    | refine W.leave rfl rfl rfl rfl ?_
                    | refine AOps.take rfl rfl (W.pure rfl rfl rfl ?_)
                    | refine AOps.take rfl rfl (W.cmpT rfl rfl rfl rfl (decide_eq_true (by omega)) ?_)
                    | refine AOps.take rfl rfl (W.cmpF rfl rfl rfl rfl (h21f) ?_)
                    | refine AOps.take rfl rfl (W.cmpF rfl rfl rfl rfl (h28) ?_)
                    | refine AOps.take rfl rfl (W.cmpF rfl rfl rfl rfl (h30) ?_)
                    | refine AOps.take rfl rfl (W.cmpF rfl rfl rfl rfl (h29) ?_)
                    | refine AOps.take rfl rfl (W.indexAddr rfl rfl rfl rfl rfl rfl (by omega) (by omega) (rows_ne hlt) ?_)
                    | refine AOps.take rfl rfl (W.loadRow rfl rfl rfl rfl hkid ?_)
                    | refine AOps.take rfl rfl (W.cmp rfl rfl rfl rfl (fun _ => ?_) (fun _ => ?_))
                    | refine AOps.plain rfl (W.boxI rfl rfl rfl rfl rfl rfl ?_)
                    | refine AOps.plain rfl (W.build rfl rfl rfl rfl rfl rfl rfl ?_)
                    | refine AOps.plain rfl (W.alloc rfl rfl rfl rfl rfl ?_)
                    | refine AOps.plain rfl (W.storeL rfl rfl rfl rfl rfl rfl rfl rfl rfl ?_)
                    | refine AOps.plain rfl (W.buildSlice rfl rfl rfl rfl rfl rfl rfl rfl rfl ?_))
                | (show AWp _ _ _ _ _; first
                    | refine AWp.seq ?_
                    | refine AWp.region ?_
                    | refine AWp.condT rfl ?_
                    | refine AWp.condF rfl ?_
                    | refine AWp.skip ?_
                    | refine AWp.block ?_
                    | refine AWp.exit ?_
                    | refine AWp.ret ?_
                    | refine AWp.draw0 (by kernel_rfl) ?_)
                | refine AThen.normal ?_
                | refine AThen.exit ?_
                | refine AThen.ret ?_
                | refine AThen.pan ?_
                | refine AInBlock.pan ?_
                | refine AInBlock.normal ?_
                | refine AInBlock.ret ?_
                | refine AInBlock.same ?_
                | refine AInBlock.other rfl ?_)
            exact next ej _ _ _ (by simp only [letsT, h21, hb, if_false]) rfl ⟨rfl, rfl, rfl, subInt (wrapAdd (by omega) (by omega)), trivial⟩
    · repeat' (first
        | (show DOps _ _ _ _ _ _ _ _ _ _ _; first
            | refine D.end ?_
            | refine D.val (.inl rfl) rfl rfl rfl ?_
            | refine D.leave rfl rfl rfl rfl ?_
            | refine D.val (Wants.take rfl rfl) rfl rfl rfl ?_
            | refine (D.cmpF rfl (.inl rfl) rfl rfl rfl (decide_eq_false (by omega)) ?_)
            | refine D.cmp rfl (.inl rfl) rfl rfl rfl (fun _ => ?_) (fun _ => ?_)
            | refine D.valO (.inl rfl) rfl rfl rfl rfl ?_
            | refine D.build (.inl rfl) rfl rfl rfl rfl rfl rfl rfl ?_
            | refine D.buildSlice (.inl rfl) rfl rfl rfl rfl rfl rfl rfl rfl rfl ?_
            | refine (D.cmpF rfl (Wants.take rfl rfl) rfl rfl rfl (decide_eq_false (by omega)) ?_)
            | refine D.cmp rfl (Wants.take rfl rfl) rfl rfl rfl (fun _ => ?_) (fun _ => ?_)
            | refine D.valO (Wants.take rfl rfl) rfl rfl rfl rfl ?_
            | refine D.build (Wants.take rfl rfl) rfl rfl rfl rfl rfl rfl rfl ?_
            | refine D.buildSlice (Wants.take rfl rfl) rfl rfl rfl rfl rfl rfl rfl rfl rfl ?_)
        | (show AOps _ _ _ _ _ _; first
            | refine AOps.nil ?_
            | refine AOps.plain rfl (W.pure rfl rfl rfl ?_)
            | refine AOps.plain rfl (W.cmpF rfl rfl rfl rfl (decide_eq_false (by omega)) ?_)
            | refine AOps.plain rfl (W.cmp rfl rfl rfl rfl (fun _ => ?_) (fun _ => ?_))
            | refine W.leave rfl rfl rfl rfl ?_
            | refine AOps.take rfl rfl (W.pure rfl rfl rfl ?_)
            | refine AOps.take rfl rfl (W.cmpF rfl rfl rfl rfl (decide_eq_false (by omega)) ?_)
            | refine AOps.take rfl rfl (W.cmp rfl rfl rfl rfl (fun _ => ?_) (fun _ => ?_))
            | refine AOps.plain rfl (W.boxI rfl rfl rfl rfl rfl rfl ?_)
            | refine AOps.plain rfl (W.build rfl rfl rfl rfl rfl rfl rfl ?_)
            | refine AOps.plain rfl (W.alloc rfl rfl rfl rfl rfl ?_)
            | refine AOps.plain rfl (W.storeL rfl rfl rfl rfl rfl rfl rfl rfl rfl ?_)
            | refine AOps.plain rfl (W.buildSlice rfl rfl rfl rfl rfl rfl rfl rfl rfl ?_))
        | (show AWp _ _ _ _ _; first
            | refine AWp.seq ?_
            | refine AWp.region ?_
            | refine AWp.condT rfl ?_
            | refine AWp.condF rfl ?_
            | refine AWp.skip ?_
            | refine AWp.block ?_
            | refine AWp.exit ?_
            | refine AWp.ret ?_
            | refine AWp.draw0 (by kernel_rfl) ?_)
        | refine AThen.normal ?_
        | refine AThen.exit ?_
        | refine AThen.ret ?_
        | refine AThen.pan ?_
        | refine AInBlock.pan ?_
        | refine AInBlock.normal ?_
        | refine AInBlock.ret ?_
        | refine AInBlock.same ?_
        | refine AInBlock.other rfl ?_)
      refine bodyQ.none rfl ?_
      have : letsL es ks = .ok ej := by rw [hpre, List.drop_eq_nil_of_le (by omega)]; simp [letsL]
      rw [this]
      exact ⟨rfl, rfl⟩

end Go.Proofs.Ytceocfancfjdjaa
