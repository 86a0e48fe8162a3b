/- (D) The scopes: a function's names are resolved. No condition. -/
import Derived.Test.YtceocfancfjdjaaScD
import Derived.Test.YtceocfancfjdjaaScZ
namespace Go.Proofs.Ytceocfancfjdjaa
open Go Go.RowKit
attribute [local irreducible] ACalls AOps AOp AWp AWpL AThen AInBlock bodyQ seq DOps

theorem fcells_append (a b : List FnR) : fcells (a ++ b) = fcells a ++ fcells b := by
  induction a with
  | nil => rfl
  | cons x r ih => simp only [List.cons_append, fcells, ih, List.append_assoc]

theorem FnR.cells_len (f : FnR) : f.cells.length = 3 := rfl
theorem FnR.cells_noL (f : FnR) : noLs f.cells = true := by
  obtain ⟨a, b, c⟩ := f
  cases c <;> rfl

theorem fcells_len (fs : List FnR) : (fcells fs).length = fs.length * 3 := by
  induction fs with
  | nil => rfl
  | cons x r ih => simp only [fcells, List.length_append, FnR.cells_len, ih, List.length_cons]; omega

theorem fcells_noL (fs : List FnR) : noLs (fcells fs) = true := by
  induction fs with
  | nil => rfl
  | cons x r ih => simp only [fcells, noLs_append, FnR.cells_noL, ih, Bool.and_true]

theorem setK_fcells (l : List Tree) : ∀ (fs : List FnR) (i : Nat), i < fs.length → setK (fcells fs) (i * 3 + 2) [.islice (rows l) l.length] = some (fcells (setBody fs i l))
  | [], i, h => by simp at h
  | f :: r, 0, _ => by
    obtain ⟨a, b, c⟩ := f
    simp [fcells, FnR.cells, setK, setBody]
  | f :: r, i + 1, h => by
    have ih := setK_fcells l r i (by simpa using h)
    obtain ⟨a, b, c⟩ := f
    have e : (i + 1) * 3 + 2 = (i * 3 + 2) + 1 + 1 + 1 := by omega
    rw [e]
    simp only [fcells, FnR.cells, List.cons_append, List.nil_append, setK, ih]
    simp [setBody, fcells, FnR.cells]

theorem RSt.lt {M : List AObj} {g : Int} {ver : Nat} {fs : List FnR} {whole : Ents} {own : Option Ents} {ov : CV} (h : RSt M g ver fs whole own ov) : 6 ≤ M.length := (List.getElem?_eq_some_iff.1 h.h2).1

theorem push_old {M : List AObj} {x : AObj} {j : Nat} (h : j < M.length) : (M ++ [x])[j]? = M[j]? := List.getElem?_append_left h
theorem push_new {M : List AObj} {x : AObj} : (M ++ [x])[M.length]? = some x := by simp
theorem push_set {M : List AObj} {x y : AObj} : (M ++ [x]).set M.length y = M ++ [y] := by simp [List.set_append_right]

theorem declL_drop (p : Int) (es : Ents) (l : List ByteArray) {j : Nat} (h : j < l.length) : declL p es (l.drop j) = match declE es l[j] p with
    | .ok es' => declL p es' (l.drop (j + 1))
    | .error f => .error f := by
  rw [List.drop_eq_getElem_cons h]
  simp only [declL]
  cases declE es l[j] p <;> rfl

def NodeOk (t : Tree) : Prop := ∀ (g : Int) (whole : Ents) (own : Option Ents) (ov : CV) (M : List AObj) (ver : Nat) (fs : List FnR), RSt M g ver fs whole own ov → fs.length ≤ 32 →
  ACalls 30 [.ptr (.g 5) 0 0, t.cv] M (nodeQ M g whole own ov (nodeR t whole own fs))

set_option maxHeartbeats 8000000 in
theorem function_ok (k o n : Int) (s : ByteArray) (ns : List ByteArray) (ks : List Tree) (p : Int) (hk : k = 8) (hsm : (Tree.mk k o n s ns ks p).small) (hns : ns.length ≤ 1000000) (hks : ks.length ≤ 1000000)
    (hnode : ∀ t, t ∈ ks → NodeOk t) (g : Int) (whole : Ents) (own : Option Ents) (ov : CV) (M : List AObj) (ver : Nat) (fs : List FnR) (hR : RSt M g ver fs whole own ov) (hle : fs.length ≤ 32) :
    ACalls 43 [.ptr (.g 5) 0 0, (Tree.mk k o n s ns ks p).cv] M (nodeQ M g whole own ov (nodeR (Tree.mk k o n s ns ks p) whole own fs)) := by
  have h3 := hR.lt
  obtain ⟨h0, h1, h2, ho⟩ := hR
  have hov : noL ov = true := by
    cases own with
    | none => simp only at ho; subst ho; rfl
    | some es => simp only at ho; obtain ⟨_, _, rfl, _⟩ := ho; rfl
  have hovf : flat ov = true := by
    cases own with
    | none => simp only at ho; subst ho; rfl
    | some es => simp only at ho; obtain ⟨_, _, rfl, _⟩ := ho; rfl
  have hovc : ov.cells = [ov] := by
    cases own with
    | none => simp only at ho; subst ho; rfl
    | some es => simp only at ho; obtain ⟨_, _, rfl, _⟩ := ho; rfl
  refine ACalls.of_body Try.func43 rfl rfl rfl ?_
  simp only [Try.ntmps43, frOf]
  by_cases h32 : fs.length = 32
  · have hc : ((fs.length : Int) == 32) = true := by rw [beq_iff_eq]; omega
    repeat' (first
        | (show DOps _ _ _ _ _ _ _ _ _ _ _; first
            | refine D.end ?_
            | refine D.val (.inl rfl) rfl rfl rfl ?_
            | refine D.leave rfl rfl rfl rfl ?_
            | refine D.val (Wants.take rfl rfl) rfl rfl rfl ?_
            | refine (D.cmpT rfl (.inl rfl) rfl rfl rfl (hc) ?_)
            | refine D.cmp rfl (.inl rfl) rfl rfl rfl (fun _ => ?_) (fun _ => ?_)
            | refine D.valO (.inl rfl) rfl rfl rfl rfl ?_
            | refine D.build (.inl rfl) rfl rfl rfl rfl rfl rfl rfl ?_
            | refine D.buildSlice (.inl rfl) rfl rfl rfl rfl rfl rfl rfl rfl rfl ?_
            | refine (D.cmpT rfl (Wants.take rfl rfl) rfl rfl rfl (hc) ?_)
            | refine D.cmp rfl (Wants.take rfl rfl) rfl rfl rfl (fun _ => ?_) (fun _ => ?_)
            | refine D.valO (Wants.take rfl rfl) rfl rfl rfl rfl ?_
            | refine D.build (Wants.take rfl rfl) rfl rfl rfl rfl rfl rfl rfl ?_
            | refine D.buildSlice (Wants.take rfl rfl) rfl rfl rfl rfl rfl rfl rfl rfl rfl ?_)
        | (show AOps _ _ _ _ _ _; first
            | refine AOps.nil ?_
            | refine AOps.plain rfl (W.pure rfl rfl rfl ?_)
            | refine AOps.plain rfl (W.loadBox rfl rfl h2 rfl rfl rfl ?_)
            | refine AOps.plain rfl (W.cmpT rfl rfl rfl rfl (hc) ?_)
            | refine AOps.plain rfl (W.panic rfl rfl ?_)
            | refine AOps.plain rfl (W.cmp rfl rfl rfl rfl (fun _ => ?_) (fun _ => ?_))
            | refine W.leave rfl rfl rfl rfl ?_
            | refine AOps.take rfl rfl (W.pure rfl rfl rfl ?_)
            | refine AOps.take rfl rfl (W.loadBox rfl rfl h2 rfl rfl rfl ?_)
            | refine AOps.take rfl rfl (W.cmpT rfl rfl rfl rfl (hc) ?_)
            | refine AOps.take rfl rfl (W.panic rfl rfl ?_)
            | refine AOps.take rfl rfl (W.cmp rfl rfl rfl rfl (fun _ => ?_) (fun _ => ?_))
            | refine AOps.plain rfl (W.boxI rfl rfl rfl rfl rfl rfl ?_)
            | refine AOps.plain rfl (W.build rfl rfl rfl rfl rfl rfl rfl ?_)
            | refine AOps.plain rfl (W.alloc rfl rfl rfl rfl rfl ?_)
            | refine AOps.plain rfl (W.storeL rfl rfl rfl rfl rfl rfl rfl rfl rfl ?_)
            | refine AOps.plain rfl (W.buildSlice rfl rfl rfl rfl rfl rfl rfl rfl rfl ?_))
        | (show AWp _ _ _ _ _; first
            | refine AWp.seq ?_
            | refine AWp.region ?_
            | refine AWp.condT rfl ?_
            | refine AWp.condF rfl ?_
            | refine AWp.skip ?_
            | refine AWp.block ?_
            | refine AWp.exit ?_
            | refine AWp.ret ?_
            | refine AWp.draw0 (by kernel_rfl) ?_)
        | refine AThen.normal ?_
        | refine AThen.exit ?_
        | refine AThen.ret ?_
        | refine AThen.pan ?_
        | refine AInBlock.pan ?_
        | refine AInBlock.normal ?_
        | refine AInBlock.ret ?_
        | refine AInBlock.same ?_
        | refine AInBlock.other rfl ?_)
    refine bodyQ.pan rfl ?_
    have : nodeR (Tree.mk k o n s ns ks p) whole own fs = .error (p, 5) := by simp [nodeR, hk, h32]
    rw [this]
    exact ⟨rfl, Keep0.refl M⟩
  · have hc : ((fs.length : Int) == 32) = false := by rw [beq_eq_false_iff_ne]; omega
    repeat' (first
        | (show DOps _ _ _ _ _ _ _ _ _ _ _; first
            | refine D.end ?_
            | refine D.val (.inl rfl) rfl rfl rfl ?_
            | refine D.leave rfl rfl rfl rfl ?_
            | refine D.val (Wants.take rfl rfl) rfl rfl rfl ?_
            | refine (D.cmpF rfl (.inl rfl) rfl rfl rfl (hc) ?_)
            | refine D.cmp rfl (.inl rfl) rfl rfl rfl (fun _ => ?_) (fun _ => ?_)
            | refine D.valO (.inl rfl) rfl rfl rfl rfl ?_
            | refine D.build (.inl rfl) rfl rfl rfl rfl rfl rfl rfl ?_
            | refine D.buildSlice (.inl rfl) rfl rfl rfl rfl rfl rfl rfl rfl rfl ?_
            | refine (D.cmpF rfl (Wants.take rfl rfl) rfl rfl rfl (hc) ?_)
            | refine D.cmp rfl (Wants.take rfl rfl) rfl rfl rfl (fun _ => ?_) (fun _ => ?_)
            | refine D.valO (Wants.take rfl rfl) rfl rfl rfl rfl ?_
            | refine D.build (Wants.take rfl rfl) rfl rfl rfl rfl rfl rfl rfl ?_
            | refine D.buildSlice (Wants.take rfl rfl) rfl rfl rfl rfl rfl rfl rfl rfl rfl ?_)
        | (show AOps _ _ _ _ _ _; first
            | refine AOps.nil ?_
            | refine AOps.plain rfl (W.pure rfl rfl rfl ?_)
            | refine AOps.plain rfl (W.loadBox rfl rfl h2 rfl rfl rfl ?_)
            | refine AOps.plain rfl (W.cmpF rfl rfl rfl rfl (hc) ?_)
            | refine AOps.plain rfl (W.makeMap rfl rfl rfl ?_)
            | refine AOps.plain rfl (W.cmp rfl rfl rfl rfl (fun _ => ?_) (fun _ => ?_))
            | refine W.leave rfl rfl rfl rfl ?_
            | refine AOps.take rfl rfl (W.pure rfl rfl rfl ?_)
            | refine AOps.take rfl rfl (W.loadBox rfl rfl h2 rfl rfl rfl ?_)
            | refine AOps.take rfl rfl (W.cmpF rfl rfl rfl rfl (hc) ?_)
            | refine AOps.take rfl rfl (W.makeMap rfl rfl rfl ?_)
            | refine AOps.take rfl rfl (W.cmp rfl rfl rfl rfl (fun _ => ?_) (fun _ => ?_))
            | refine AOps.plain rfl (W.boxI rfl rfl rfl rfl rfl rfl ?_)
            | refine AOps.plain rfl (W.build rfl rfl rfl rfl rfl rfl rfl ?_)
            | refine AOps.plain rfl (W.alloc rfl rfl rfl rfl rfl ?_)
            | refine AOps.plain rfl (W.storeL rfl rfl rfl rfl rfl rfl rfl rfl rfl ?_)
            | refine AOps.plain rfl (W.buildSlice rfl rfl rfl rfl rfl rfl rfl rfl rfl ?_))
        | (show AWp _ _ _ _ _; first
            | refine AWp.seq ?_
            | refine AWp.region ?_
            | refine AWp.condT rfl ?_
            | refine AWp.condF rfl ?_
            | refine AWp.skip ?_
            | refine AWp.block ?_
            | refine AWp.exit ?_
            | refine AWp.ret ?_
            | refine AWp.draw0 (by kernel_rfl) ?_)
        | refine AThen.normal ?_
        | refine AThen.exit ?_
        | refine AThen.ret ?_
        | refine AThen.pan ?_
        | refine AInBlock.pan ?_
        | refine AInBlock.normal ?_
        | refine AInBlock.ret ?_
        | refine AInBlock.same ?_
        | refine AInBlock.other rfl ?_)
    refine AWp.loop ?_
    refine AWpL.upto (fun j st => ∃ ej : Ents, declL p [] ns = declL p ej (ns.drop j) ∧
      ∃ fr, st = { fr := fr, loc := [(4, .box [.int .i64 0, .int .i64 0, .int .i64 0, .str nothing, .nilslice, .nilslice, .int .i64 0])], M := M ++ [.map ej], ds := [] } ∧
        Sub fr [(0, .ptr (.g 5) 0 0), (3, .iptr (Tree.mk k o n s ns ks p).cells 0), (4, .ptr (.l 4) 0 0), (5, .int .i64 (fs.length : Int)), (6, .map (.g M.length)), (25, .islice (strs ns) ns.length), (26, .int .i64 (ns.length : Int)), (27, .int .i64 (j : Int))])
      ns.length ?_ 0 _ (Nat.zero_le _) ⟨[], rfl, _, rfl, rfl, rfl, rfl, rfl, rfl, rfl, rfl, rfl, trivial⟩
    rintro j st hj ⟨ej, hpre, fr, rfl, hsub⟩ hnext
    refine AWp.mask hsub ?_
    clear hsub
    by_cases hlt : j < ns.length
    · have hst := declL_drop p ej ns hlt
      have hcall := decl_ok M.length ej ns[j] p (M ++ [.map ej]) push_new
      cases hd : declE ej ns[j] p with
      | error f =>
        simp only [hd] at hcall
        clear hnext
        repeat' (first
            | (show DOps _ _ _ _ _ _ _ _ _ _ _; first
                | refine D.end ?_
                | refine D.val (.inl rfl) rfl rfl rfl ?_
                | refine D.leave rfl rfl rfl rfl ?_
                | refine D.val (Wants.take rfl rfl) rfl rfl rfl ?_
                | refine (D.cmpT rfl (.inl rfl) rfl rfl rfl (decide_eq_true (by omega)) ?_)
                | refine D.cmp rfl (.inl rfl) rfl rfl rfl (fun _ => ?_) (fun _ => ?_)
                | refine D.valO (.inl rfl) rfl rfl rfl rfl ?_
                | refine D.build (.inl rfl) rfl rfl rfl rfl rfl rfl rfl ?_
                | refine D.buildSlice (.inl rfl) rfl rfl rfl rfl rfl rfl rfl rfl rfl ?_
                | refine (D.cmpT rfl (Wants.take rfl rfl) rfl rfl rfl (decide_eq_true (by omega)) ?_)
                | refine D.cmp rfl (Wants.take rfl rfl) rfl rfl rfl (fun _ => ?_) (fun _ => ?_)
                | refine D.valO (Wants.take rfl rfl) rfl rfl rfl rfl ?_
                | refine D.build (Wants.take rfl rfl) rfl rfl rfl rfl rfl rfl rfl ?_
                | refine D.buildSlice (Wants.take rfl rfl) rfl rfl rfl rfl rfl rfl rfl rfl rfl ?_)
            | (show AOps _ _ _ _ _ _; first
                | refine AOps.nil ?_
                | refine AOps.plain rfl (W.pure rfl rfl rfl ?_)
                | refine AOps.plain rfl (W.cmpT rfl rfl rfl rfl (decide_eq_true (by omega)) ?_)
                | refine AOps.plain rfl (W.indexAddr rfl rfl rfl rfl rfl rfl (by omega) (by omega) (strs_ne hlt) ?_)
                | refine AOps.plain rfl (W.loadRow rfl rfl rfl rfl (ld_name hlt) ?_)
                | refine AOps.plain rfl (W.callP rfl rfl rfl rfl rfl hcall rfl rfl (fun M' hM' => ?_))
                | refine AOps.plain rfl (W.cmp rfl rfl rfl rfl (fun _ => ?_) (fun _ => ?_))
                | refine W.leave rfl rfl rfl rfl ?_
                | refine AOps.take rfl rfl (W.pure rfl rfl rfl ?_)
                | refine AOps.take rfl rfl (W.cmpT rfl rfl rfl rfl (decide_eq_true (by omega)) ?_)
                | refine AOps.take rfl rfl (W.indexAddr rfl rfl rfl rfl rfl rfl (by omega) (by omega) (strs_ne hlt) ?_)
                | refine AOps.take rfl rfl (W.loadRow rfl rfl rfl rfl (ld_name hlt) ?_)
                | refine AOps.take rfl rfl (W.callP rfl rfl rfl rfl rfl hcall rfl rfl (fun M' hM' => ?_))
                | refine AOps.take rfl rfl (W.cmp rfl rfl rfl rfl (fun _ => ?_) (fun _ => ?_))
                | refine AOps.plain rfl (W.boxI rfl rfl rfl rfl rfl rfl ?_)
                | refine AOps.plain rfl (W.build rfl rfl rfl rfl rfl rfl rfl ?_)
                | refine AOps.plain rfl (W.alloc rfl rfl rfl rfl rfl ?_)
                | refine AOps.plain rfl (W.storeL rfl rfl rfl rfl rfl rfl rfl rfl rfl ?_)
                | refine AOps.plain rfl (W.buildSlice rfl rfl rfl rfl rfl rfl rfl rfl rfl ?_))
            | (show AWp _ _ _ _ _; first
                | refine AWp.seq ?_
                | refine AWp.region ?_
                | refine AWp.condT rfl ?_
                | refine AWp.condF rfl ?_
                | refine AWp.skip ?_
                | refine AWp.block ?_
                | refine AWp.exit ?_
                | refine AWp.ret ?_
                | refine AWp.draw0 (by kernel_rfl) ?_)
            | refine AThen.normal ?_
            | refine AThen.exit ?_
            | refine AThen.ret ?_
            | refine AThen.pan ?_
            | refine AInBlock.pan ?_
            | refine AInBlock.normal ?_
            | refine AInBlock.ret ?_
            | refine AInBlock.same ?_
            | refine AInBlock.other rfl ?_)
        refine bodyQ.pan rfl ?_
        have h4 : declL p [] ns = .error f := by rw [hpre, hst, hd]
        have : nodeR (Tree.mk k o n s ns ks p) whole own fs = .error f := by simp [nodeR, hk, h32, h4]
        rw [this]
        exact ⟨rfl, by rw [hM']; exact fun j _ hj => push_old hj⟩
      | ok es' =>
        simp only [hd, push_set] at hcall
        repeat' (first
            | (show DOps _ _ _ _ _ _ _ _ _ _ _; first
                | refine D.end ?_
                | refine D.val (.inl rfl) rfl rfl rfl ?_
                | refine D.leave rfl rfl rfl rfl ?_
                | refine D.val (Wants.take rfl rfl) rfl rfl rfl ?_
                | refine (D.cmpT rfl (.inl rfl) rfl rfl rfl (decide_eq_true (by omega)) ?_)
                | refine D.cmp rfl (.inl rfl) rfl rfl rfl (fun _ => ?_) (fun _ => ?_)
                | refine D.valO (.inl rfl) rfl rfl rfl rfl ?_
                | refine D.build (.inl rfl) rfl rfl rfl rfl rfl rfl rfl ?_
                | refine D.buildSlice (.inl rfl) rfl rfl rfl rfl rfl rfl rfl rfl rfl ?_
                | refine (D.cmpT rfl (Wants.take rfl rfl) rfl rfl rfl (decide_eq_true (by omega)) ?_)
                | refine D.cmp rfl (Wants.take rfl rfl) rfl rfl rfl (fun _ => ?_) (fun _ => ?_)
                | refine D.valO (Wants.take rfl rfl) rfl rfl rfl rfl ?_
                | refine D.build (Wants.take rfl rfl) rfl rfl rfl rfl rfl rfl rfl ?_
                | refine D.buildSlice (Wants.take rfl rfl) rfl rfl rfl rfl rfl rfl rfl rfl rfl ?_)
            | (show AOps _ _ _ _ _ _; first
                | refine AOps.nil ?_
                | refine AOps.plain rfl (W.pure rfl rfl rfl ?_)
                | refine AOps.plain rfl (W.cmpT rfl rfl rfl rfl (decide_eq_true (by omega)) ?_)
                | refine AOps.plain rfl (W.indexAddr rfl rfl rfl rfl rfl rfl (by omega) (by omega) (strs_ne hlt) ?_)
                | refine AOps.plain rfl (W.loadRow rfl rfl rfl rfl (ld_name hlt) ?_)
                | refine AOps.plain rfl (W.callR rfl rfl rfl rfl rfl hcall rfl rfl rfl ?_)
                | refine AOps.plain rfl (W.cmp rfl rfl rfl rfl (fun _ => ?_) (fun _ => ?_))
                | refine W.leave rfl rfl rfl rfl ?_
                | refine AOps.take rfl rfl (W.pure rfl rfl rfl ?_)
                | refine AOps.take rfl rfl (W.cmpT rfl rfl rfl rfl (decide_eq_true (by omega)) ?_)
                | refine AOps.take rfl rfl (W.indexAddr rfl rfl rfl rfl rfl rfl (by omega) (by omega) (strs_ne hlt) ?_)
                | refine AOps.take rfl rfl (W.loadRow rfl rfl rfl rfl (ld_name hlt) ?_)
                | refine AOps.take rfl rfl (W.callR rfl rfl rfl rfl rfl hcall rfl rfl rfl ?_)
                | refine AOps.take rfl rfl (W.cmp rfl rfl rfl rfl (fun _ => ?_) (fun _ => ?_))
                | refine AOps.plain rfl (W.boxI rfl rfl rfl rfl rfl rfl ?_)
                | refine AOps.plain rfl (W.build rfl rfl rfl rfl rfl rfl rfl ?_)
                | refine AOps.plain rfl (W.alloc rfl rfl rfl rfl rfl ?_)
                | refine AOps.plain rfl (W.storeL rfl rfl rfl rfl rfl rfl rfl rfl rfl ?_)
                | refine AOps.plain rfl (W.buildSlice rfl rfl rfl rfl rfl rfl rfl rfl rfl ?_))
            | (show AWp _ _ _ _ _; first
                | refine AWp.seq ?_
                | refine AWp.region ?_
                | refine AWp.condT rfl ?_
                | refine AWp.condF rfl ?_
                | refine AWp.skip ?_
                | refine AWp.block ?_
                | refine AWp.exit ?_
                | refine AWp.ret ?_
                | refine AWp.draw0 (by kernel_rfl) ?_)
            | refine AThen.normal ?_
            | refine AThen.exit ?_
            | refine AThen.ret ?_
            | refine AThen.pan ?_
            | refine AInBlock.pan ?_
            | refine AInBlock.normal ?_
            | refine AInBlock.ret ?_
            | refine AInBlock.same ?_
            | refine AInBlock.other rfl ?_)
        exact hnext.out _ hlt ⟨es', by rw [hpre, hst, hd], _, rfl, rfl, rfl, rfl, rfl, rfl, rfl, rfl, subInt (wrapAdd (by omega) (by omega)), trivial⟩
    · clear hnext
      have hd1 : declL p [] ns = .ok ej := by rw [hpre, List.drop_eq_nil_of_le (by omega)]; rfl
      have hlets := lets_ok M.length (Tree.mk k o n s ns ks p) ej (M ++ [.map ej]) push_new hsm.2.2.2.2 hsm.2.2.1
      simp only [Tree.kids] at hlets
      cases hl : letsL ej ks with
      | error f =>
        rw [hl] at hlets
        have hlets1 := ACalls.mono (QQ' := fun r M' => r = .pan (faultV f) ∧ ∃ es' : Ents, M' = (M ++ [AObj.map ej]).set M.length (AObj.map es')) hlets (fun r M' h => h)
        clear hlets
        repeat' (first
            | (show DOps _ _ _ _ _ _ _ _ _ _ _; first
                | refine D.end ?_
                | refine D.val (.inl rfl) rfl rfl rfl ?_
                | refine D.leave rfl rfl rfl rfl ?_
                | refine D.val (Wants.take rfl rfl) rfl rfl rfl ?_
                | refine (D.cmpF rfl (.inl rfl) rfl rfl rfl (decide_eq_false (by omega)) ?_)
                | refine D.cmp rfl (.inl rfl) rfl rfl rfl (fun _ => ?_) (fun _ => ?_)
                | refine D.valO (.inl rfl) rfl rfl rfl rfl ?_
                | refine D.build (.inl rfl) rfl rfl rfl rfl rfl rfl rfl ?_
                | refine D.buildSlice (.inl rfl) rfl rfl rfl rfl rfl rfl rfl rfl rfl ?_
                | refine (D.cmpF rfl (Wants.take rfl rfl) rfl rfl rfl (decide_eq_false (by omega)) ?_)
                | refine D.cmp rfl (Wants.take rfl rfl) rfl rfl rfl (fun _ => ?_) (fun _ => ?_)
                | refine D.valO (Wants.take rfl rfl) rfl rfl rfl rfl ?_
                | refine D.build (Wants.take rfl rfl) rfl rfl rfl rfl rfl rfl rfl ?_
                | refine D.buildSlice (Wants.take rfl rfl) rfl rfl rfl rfl rfl rfl rfl rfl rfl ?_)
            | (show AOps _ _ _ _ _ _; first
                | refine AOps.nil ?_
                | refine AOps.plain rfl (W.pure rfl rfl rfl ?_)
                | refine AOps.plain rfl (W.cmpF rfl rfl rfl rfl (decide_eq_false (by omega)) ?_)
                | refine AOps.plain rfl (W.callP rfl rfl rfl rfl rfl hlets1 rfl rfl (fun M' hM' => ?_))
                | refine AOps.plain rfl (W.cmp rfl rfl rfl rfl (fun _ => ?_) (fun _ => ?_))
                | refine W.leave rfl rfl rfl rfl ?_
                | refine AOps.take rfl rfl (W.pure rfl rfl rfl ?_)
                | refine AOps.take rfl rfl (W.cmpF rfl rfl rfl rfl (decide_eq_false (by omega)) ?_)
                | refine AOps.take rfl rfl (W.callP rfl rfl rfl rfl rfl hlets1 rfl rfl (fun M' hM' => ?_))
                | refine AOps.take rfl rfl (W.cmp rfl rfl rfl rfl (fun _ => ?_) (fun _ => ?_))
                | refine AOps.plain rfl (W.boxI rfl rfl rfl rfl rfl rfl ?_)
                | refine AOps.plain rfl (W.build rfl rfl rfl rfl rfl rfl rfl ?_)
                | refine AOps.plain rfl (W.alloc rfl rfl rfl rfl rfl ?_)
                | refine AOps.plain rfl (W.storeL rfl rfl rfl rfl rfl rfl rfl rfl rfl ?_)
                | refine AOps.plain rfl (W.buildSlice rfl rfl rfl rfl rfl rfl rfl rfl rfl ?_))
            | (show AWp _ _ _ _ _; first
                | refine AWp.seq ?_
                | refine AWp.region ?_
                | refine AWp.condT rfl ?_
                | refine AWp.condF rfl ?_
                | refine AWp.skip ?_
                | refine AWp.block ?_
                | refine AWp.exit ?_
                | refine AWp.ret ?_
                | refine AWp.draw0 (by kernel_rfl) ?_)
            | refine AThen.normal ?_
            | refine AThen.exit ?_
            | refine AThen.ret ?_
            | refine AThen.pan ?_
            | refine AInBlock.pan ?_
            | refine AInBlock.normal ?_
            | refine AInBlock.ret ?_
            | refine AInBlock.same ?_
            | refine AInBlock.other rfl ?_)
        refine bodyQ.pan rfl ?_
        have : nodeR (Tree.mk k o n s ns ks p) whole own fs = .error f := by simp [nodeR, hk, h32, hd1, hl]
        rw [this]
        obtain ⟨es', he⟩ := hM'
        exact ⟨rfl, by rw [he, push_set]; exact fun j _ hj => push_old hj⟩
      | ok es2 =>
        rw [hl] at hlets
        have hlets1 := ACalls.mono (QQ' := fun r M' => r = .ret (.tuple []) ∧ M' = M ++ [.map es2]) hlets (fun r M' h => ⟨h.1, by rw [h.2, push_set]⟩)
        clear hlets
        have g0 : (M ++ [.map es2])[3]? = some (.map whole) := (push_old (by omega)).trans h0
        have g1 : (M ++ [.map es2])[4]? = some (.arr ver 41 3 (fcells fs)) := (push_old (by omega)).trans h1
        have g2 : (M ++ [.map es2])[5]? = some (.box [.int .i64 g, .mslice (.g 4) ver fs.length, .map (.g 3), ov]) := (push_old (by omega)).trans h2
        have gL : (M ++ [.map es2])[M.length]? = some (.map es2) := push_new
        have hf : ∃ f : FnR, f = ⟨(ns.length : Int), (es2.length : Int), none⟩ := ⟨_, rfl⟩
        obtain ⟨f, hf⟩ := hf
        have hap : fcells fs ++ [.int .i64 (ns.length : Int), .int .i64 (es2.length : Int), .nilslice] = fcells (fs ++ [f]) := by rw [fcells_append, hf]; rfl
        have hl1 : fs.length + 1 = (fs ++ [f]).length := by simp
        have k2 : ((M ++ [AObj.map es2]).set 4 (.arr (ver + 1) 41 3 (fcells (fs ++ [f]))))[5]? = some (.box [.int .i64 g, .mslice (.g 4) ver fs.length, .map (.g 3), ov]) := by
          rw [List.getElem?_set_ne (by decide)]; exact g2
        have k3 := set_at (y := AObj.box [.int .i64 g, .mslice (.g 4) (ver + 1) (fs ++ [f]).length, .map (.g 3), ov]) k2
        have k4 := set_at (y := AObj.box [.int .i64 g, .mslice (.g 4) (ver + 1) (fs ++ [f]).length, .map (.g 3), .map (.g M.length)]) k3
        have hno1 : noLs [CV.int .i64 g, .mslice (.g 4) (ver + 1) (fs ++ [f]).length, .map (.g 3), ov] = true := by simp [noLs, noL, hov]
        have hfl : (fcells fs).length = fs.length * 3 := fcells_len fs
        repeat' (first
            | (show DOps _ _ _ _ _ _ _ _ _ _ _; first
                | refine D.end ?_
                | refine D.val (.inl rfl) rfl rfl rfl ?_
                | refine D.leave rfl rfl rfl rfl ?_
                | refine D.val (Wants.take rfl rfl) rfl rfl rfl ?_
                | refine (D.cmpF rfl (.inl rfl) rfl rfl rfl (decide_eq_false (by omega)) ?_)
                | refine (D.loadBox (.inl rfl) (by kernel_rfl) rfl rfl g2 rfl rfl rfl ?_)
                | refine (D.lenMap (.inl rfl) (by kernel_rfl) rfl rfl gL rfl rfl ?_)
                | refine (D.appendG (.inl rfl) (by kernel_rfl) rfl rfl rfl rfl g1 hfl rfl rfl rfl hap hl1 (fcells_noL _) (by decide) (by omega) (by omega) rfl rfl ?_)
                | refine (D.storeG (.inl rfl) (by kernel_rfl) rfl rfl rfl rfl k2 rfl rfl rfl rfl rfl hno1 ?_)
                | refine D.cmp rfl (.inl rfl) rfl rfl rfl (fun _ => ?_) (fun _ => ?_)
                | refine D.valO (.inl rfl) rfl rfl rfl rfl ?_
                | refine D.build (.inl rfl) rfl rfl rfl rfl rfl rfl rfl ?_
                | refine D.buildSlice (.inl rfl) rfl rfl rfl rfl rfl rfl rfl rfl rfl ?_
                | refine (D.cmpF rfl (Wants.take rfl rfl) rfl rfl rfl (decide_eq_false (by omega)) ?_)
                | refine (D.loadBox (Wants.take rfl rfl) (by kernel_rfl) rfl rfl g2 rfl rfl rfl ?_)
                | refine (D.lenMap (Wants.take rfl rfl) (by kernel_rfl) rfl rfl gL rfl rfl ?_)
                | refine (D.appendG (Wants.take rfl rfl) (by kernel_rfl) rfl rfl rfl rfl g1 hfl rfl rfl rfl hap hl1 (fcells_noL _) (by decide) (by omega) (by omega) rfl rfl ?_)
                | refine (D.storeG (Wants.take rfl rfl) (by kernel_rfl) rfl rfl rfl rfl k2 rfl rfl rfl rfl rfl hno1 ?_)
                | refine D.cmp rfl (Wants.take rfl rfl) rfl rfl rfl (fun _ => ?_) (fun _ => ?_)
                | refine D.valO (Wants.take rfl rfl) rfl rfl rfl rfl ?_
                | refine D.build (Wants.take rfl rfl) rfl rfl rfl rfl rfl rfl rfl ?_
                | refine D.buildSlice (Wants.take rfl rfl) rfl rfl rfl rfl rfl rfl rfl rfl rfl ?_)
            | (show AOps _ _ _ _ _ _; first
                | refine AOps.nil ?_
                | refine AOps.plain rfl (W.pure rfl rfl rfl ?_)
                | refine AOps.plain rfl (W.cmpF rfl rfl rfl rfl (decide_eq_false (by omega)) ?_)
                | refine AOps.plain rfl (W.callR rfl rfl rfl rfl rfl hlets1 rfl rfl rfl ?_)
                | refine AOps.plain rfl (W.loadBox rfl rfl k3 rfl rfl rfl ?_)
                | refine AOps.plain rfl (W.storeG rfl rfl rfl k3 rfl rfl rfl rfl rfl rfl ?_)
                | refine AOps.plain rfl (W.pureR rfl rfl rfl ?_)
                | refine AOps.plain rfl (W.cmp rfl rfl rfl rfl (fun _ => ?_) (fun _ => ?_))
                | refine W.leave rfl rfl rfl rfl ?_
                | refine AOps.take rfl rfl (W.pure rfl rfl rfl ?_)
                | refine AOps.take rfl rfl (W.cmpF rfl rfl rfl rfl (decide_eq_false (by omega)) ?_)
                | refine AOps.take rfl rfl (W.callR rfl rfl rfl rfl rfl hlets1 rfl rfl rfl ?_)
                | refine AOps.take rfl rfl (W.loadBox rfl rfl k3 rfl rfl rfl ?_)
                | refine AOps.take rfl rfl (W.storeG rfl rfl rfl k3 rfl rfl rfl rfl rfl rfl ?_)
                | refine AOps.take rfl rfl (W.pureR rfl rfl rfl ?_)
                | refine AOps.take rfl rfl (W.cmp rfl rfl rfl rfl (fun _ => ?_) (fun _ => ?_))
                | refine AOps.plain rfl (W.boxI rfl rfl rfl rfl rfl rfl ?_)
                | refine AOps.plain rfl (W.build rfl rfl rfl rfl rfl rfl rfl ?_)
                | refine AOps.plain rfl (W.alloc rfl rfl rfl rfl rfl ?_)
                | refine AOps.plain rfl (W.storeL rfl rfl rfl rfl rfl rfl rfl rfl rfl ?_)
                | refine AOps.plain rfl (W.buildSlice rfl rfl rfl rfl rfl rfl rfl rfl rfl ?_))
            | (show AWp _ _ _ _ _; first
                | refine AWp.drawE [13, 17] (by kernel_rfl) (by kernel_rfl) ?_
                | refine AWp.seq ?_
                | refine AWp.region ?_
                | refine AWp.condT rfl ?_
                | refine AWp.condF rfl ?_
                | refine AWp.skip ?_
                | refine AWp.block ?_
                | refine AWp.exit ?_
                | refine AWp.ret ?_
                | refine AWp.draw0 (by kernel_rfl) ?_)
            | refine AThen.normal ?_
            | refine AThen.exit ?_
            | refine AThen.ret ?_
            | refine AThen.pan ?_
            | refine AInBlock.pan ?_
            | refine AInBlock.normal ?_
            | refine AInBlock.ret ?_
            | refine AInBlock.same ?_
            | refine AInBlock.other rfl ?_)
        have hM4 : RSt ((((M ++ [AObj.map es2]).set 4 (.arr (ver + 1) 41 3 (fcells (fs ++ [f])))).set 5 (AObj.box [.int .i64 g, .mslice (.g 4) (ver + 1) (fs ++ [f]).length, .map (.g 3), ov])).set 5 (AObj.box [.int .i64 g, .mslice (.g 4) (ver + 1) (fs ++ [f]).length, .map (.g 3), .map (.g M.length)]))
            g (ver + 1) (fs ++ [f]) whole (some es2) (.map (.g M.length)) := by
          refine ⟨?_, ?_, k4, M.length, h3, rfl, ?_⟩
          · rw [List.getElem?_set_ne (by decide), List.getElem?_set_ne (by decide), List.getElem?_set_ne (by decide)]; exact g0
          · rw [List.getElem?_set_ne (by decide), List.getElem?_set_ne (by decide)]; exact set_at g1
          · rw [List.getElem?_set_ne (by omega), List.getElem?_set_ne (by omega), List.getElem?_set_ne (by omega)]; exact gL
        have hle1 : (fs ++ [f]).length ≤ 32 := by simp; omega
        have hK4 : Keep M ((((M ++ [AObj.map es2]).set 4 (.arr (ver + 1) 41 3 (fcells (fs ++ [f])))).set 5 (AObj.box [.int .i64 g, .mslice (.g 4) (ver + 1) (fs ++ [f]).length, .map (.g 3), ov])).set 5 (AObj.box [.int .i64 g, .mslice (.g 4) (ver + 1) (fs ++ [f]).length, .map (.g 3), .map (.g M.length)])) := by
          refine ⟨by simp, fun j h3j hj => ?_⟩
          rw [List.getElem?_set_ne (by omega), List.getElem?_set_ne (by omega), List.getElem?_set_ne (by omega)]
          exact push_old hj
        have hnodes := nodes_ok ks g whole (some es2) (.map (.g M.length)) hks (fun t ht M ver fs => hnode t ht g whole _ _ M ver fs)
          (fun t _ fs t' fs' hle h => (nodeR_len t _ _ _ _ _ hle h).2) _ (ver + 1) (fs ++ [f]) hM4 hle1
        generalize hX : ((((M ++ [AObj.map es2]).set 4 (.arr (ver + 1) 41 3 (fcells (fs ++ [f])))).set 5 (AObj.box [.int .i64 g, .mslice (.g 4) (ver + 1) (fs ++ [f]).length, .map (.g 3), ov])).set 5 (AObj.box [.int .i64 g, .mslice (.g 4) (ver + 1) (fs ++ [f]).length, .map (.g 3), .map (.g M.length)])) = M4 at hnodes hM4 hK4
        cases hr : nodesR ks whole (some es2) (fs ++ [f]) with
        | error e =>
          rw [hr] at hnodes
          have hc1 := ACalls.mono (QQ' := fun r M' => r = .pan (faultV e) ∧ Keep0 M M') hnodes (fun r M' h => ⟨h.1, hK4.trans0 h.2⟩)
          rw [← hX] at hc1
          repeat' (first
              | (show DOps _ _ _ _ _ _ _ _ _ _ _; first
                  | refine D.end ?_
                  | refine D.val (.inl rfl) rfl rfl rfl ?_
                  | refine D.leave rfl rfl rfl rfl ?_
                  | refine D.val (Wants.take rfl rfl) rfl rfl rfl ?_
                  | refine D.cmp rfl (.inl rfl) rfl rfl rfl (fun _ => ?_) (fun _ => ?_)
                  | refine D.valO (.inl rfl) rfl rfl rfl rfl ?_
                  | refine D.build (.inl rfl) rfl rfl rfl rfl rfl rfl rfl ?_
                  | refine D.buildSlice (.inl rfl) rfl rfl rfl rfl rfl rfl rfl rfl rfl ?_
                  | refine D.cmp rfl (Wants.take rfl rfl) rfl rfl rfl (fun _ => ?_) (fun _ => ?_)
                  | refine D.valO (Wants.take rfl rfl) rfl rfl rfl rfl ?_
                  | refine D.build (Wants.take rfl rfl) rfl rfl rfl rfl rfl rfl rfl ?_
                  | refine D.buildSlice (Wants.take rfl rfl) rfl rfl rfl rfl rfl rfl rfl rfl rfl ?_)
              | (show AOps _ _ _ _ _ _; first
                  | refine AOps.nil ?_
                  | refine AOps.plain rfl (W.pure rfl rfl rfl ?_)
                  | refine AOps.plain rfl (W.callP rfl rfl rfl rfl rfl hc1 rfl rfl (fun M' hM' => ?_))
                  | refine AOps.plain rfl (W.cmp rfl rfl rfl rfl (fun _ => ?_) (fun _ => ?_))
                  | refine W.leave rfl rfl rfl rfl ?_
                  | refine AOps.take rfl rfl (W.pure rfl rfl rfl ?_)
                  | refine AOps.take rfl rfl (W.callP rfl rfl rfl rfl rfl hc1 rfl rfl (fun M' hM' => ?_))
                  | refine AOps.take rfl rfl (W.cmp rfl rfl rfl rfl (fun _ => ?_) (fun _ => ?_))
                  | refine AOps.plain rfl (W.boxI rfl rfl rfl rfl rfl rfl ?_)
                  | refine AOps.plain rfl (W.build rfl rfl rfl rfl rfl rfl rfl ?_)
                  | refine AOps.plain rfl (W.alloc rfl rfl rfl rfl rfl ?_)
                  | refine AOps.plain rfl (W.storeL rfl rfl rfl rfl rfl rfl rfl rfl rfl ?_)
                  | refine AOps.plain rfl (W.buildSlice rfl rfl rfl rfl rfl rfl rfl rfl rfl ?_))
              | (show AWp _ _ _ _ _; first
                  | refine AWp.seq ?_
                  | refine AWp.region ?_
                  | refine AWp.condT rfl ?_
                  | refine AWp.condF rfl ?_
                  | refine AWp.skip ?_
                  | refine AWp.block ?_
                  | refine AWp.exit ?_
                  | refine AWp.ret ?_
                  | refine AWp.draw0 (by kernel_rfl) ?_)
              | refine AThen.normal ?_
              | refine AThen.exit ?_
              | refine AThen.ret ?_
              | refine AThen.pan ?_
              | refine AInBlock.pan ?_
              | refine AInBlock.normal ?_
              | refine AInBlock.ret ?_
              | refine AInBlock.same ?_
              | refine AInBlock.other rfl ?_)
          refine bodyQ.pan rfl ?_
          have : nodeR (Tree.mk k o n s ns ks p) whole own fs = .error e := by simp [nodeR, hk, h32, hd1, hl, ← hf, hr]
          rw [this]
          exact ⟨rfl, hM'⟩
        | ok q =>
          obtain ⟨ks', fs'⟩ := q
          rw [hr] at hnodes
          have hc1 := ACalls.mono (QQ' := fun r M' => r = .ret (.islice (rows ks') ks'.length) ∧ ∃ ver', RSt M' g ver' fs' whole (some es2) (.map (.g M.length)) ∧ Keep M4 M') hnodes (fun r M' h => h)
          rw [← hX] at hc1
          have hlen2 := nodesR_len ks whole (some es2) (fs ++ [f]) ks' fs' hle1 hr
          have hlt2 : fs.length < fs'.length := by simp at hlen2; omega
          have hset := setK_fcells ks' fs' fs.length hlt2
          refine AOps.plain rfl (W.callM rfl rfl rfl rfl rfl hc1 rfl rfl rfl (fun M5 hM5 => ?_))
          obtain ⟨ver', hR5, hK5⟩ := hM5
          rw [hX] at hK5
          obtain ⟨p0, p1, p2, po⟩ := hR5
          have q2 : (M5.set 4 (.arr ver' 41 3 (fcells (setBody fs' fs.length ks'))))[5]? = some (.box [.int .i64 g, .mslice (.g 4) ver' fs'.length, .map (.g 3), .map (.g M.length)]) := by
            rw [List.getElem?_set_ne (by decide)]; exact p2
          have hno2 : noLs [CV.int .i64 g, .mslice (.g 4) ver' fs'.length, .map (.g 3), ov] = true := by simp [noLs, noL, hov]
          clear hc1
          repeat' (first
              | (show DOps _ _ _ _ _ _ _ _ _ _ _; first
                  | refine D.end ?_
                  | refine D.val (.inl rfl) rfl rfl rfl ?_
                  | refine D.leave rfl rfl rfl rfl ?_
                  | refine D.val (Wants.take rfl rfl) rfl rfl rfl ?_
                  | refine D.cmp rfl (.inl rfl) rfl rfl rfl (fun _ => ?_) (fun _ => ?_)
                  | refine D.valO (.inl rfl) rfl rfl rfl rfl ?_
                  | refine D.build (.inl rfl) rfl rfl rfl rfl rfl rfl rfl ?_
                  | refine D.buildSlice (.inl rfl) rfl rfl rfl rfl rfl rfl rfl rfl rfl ?_
                  | refine D.cmp rfl (Wants.take rfl rfl) rfl rfl rfl (fun _ => ?_) (fun _ => ?_)
                  | refine D.valO (Wants.take rfl rfl) rfl rfl rfl rfl ?_
                  | refine D.build (Wants.take rfl rfl) rfl rfl rfl rfl rfl rfl rfl ?_
                  | refine D.buildSlice (Wants.take rfl rfl) rfl rfl rfl rfl rfl rfl rfl rfl rfl ?_)
              | (show AOps _ _ _ _ _ _; first
                  | refine AOps.nil ?_
                  | refine AOps.plain rfl (W.pure rfl rfl rfl ?_)
                  | refine AOps.plain rfl (W.loadBox rfl rfl p2 rfl rfl rfl ?_)
                  | refine AOps.plain rfl (W.indexM rfl rfl rfl rfl rfl rfl (by omega) (by omega) ?_)
                  | refine AOps.plain rfl (W.storeGA rfl rfl rfl p1 rfl rfl rfl rfl hset (fcells_noL _) ?_)
                  | refine AOps.plain rfl (W.storeG rfl rfl rfl q2 rfl hovc hovf rfl rfl hno2 ?_)
                  | refine AOps.plain rfl (W.pureR rfl rfl rfl ?_)
                  | refine AOps.plain rfl (W.cmp rfl rfl rfl rfl (fun _ => ?_) (fun _ => ?_))
                  | refine W.leave rfl rfl rfl rfl ?_
                  | refine AOps.take rfl rfl (W.pure rfl rfl rfl ?_)
                  | refine AOps.take rfl rfl (W.loadBox rfl rfl p2 rfl rfl rfl ?_)
                  | refine AOps.take rfl rfl (W.indexM rfl rfl rfl rfl rfl rfl (by omega) (by omega) ?_)
                  | refine AOps.take rfl rfl (W.storeGA rfl rfl rfl p1 rfl rfl rfl rfl hset (fcells_noL _) ?_)
                  | refine AOps.take rfl rfl (W.storeG rfl rfl rfl q2 rfl hovc hovf rfl rfl hno2 ?_)
                  | refine AOps.take rfl rfl (W.pureR rfl rfl rfl ?_)
                  | refine AOps.take rfl rfl (W.cmp rfl rfl rfl rfl (fun _ => ?_) (fun _ => ?_))
                  | refine AOps.plain rfl (W.boxI rfl rfl rfl rfl rfl rfl ?_)
                  | refine AOps.plain rfl (W.build rfl rfl rfl rfl rfl rfl rfl ?_)
                  | refine AOps.plain rfl (W.alloc rfl rfl rfl rfl rfl ?_)
                  | refine AOps.plain rfl (W.storeL rfl rfl rfl rfl rfl rfl rfl rfl rfl ?_)
                  | refine AOps.plain rfl (W.buildSlice rfl rfl rfl rfl rfl rfl rfl rfl rfl ?_))
              | (show AWp _ _ _ _ _; first
                  | refine AWp.seq ?_
                  | refine AWp.region ?_
                  | refine AWp.condT rfl ?_
                  | refine AWp.condF rfl ?_
                  | refine AWp.skip ?_
                  | refine AWp.block ?_
                  | refine AWp.exit ?_
                  | refine AWp.ret ?_
                  | refine AWp.draw0 (by kernel_rfl) ?_)
              | refine AThen.normal ?_
              | refine AThen.exit ?_
              | refine AThen.ret ?_
              | refine AThen.pan ?_
              | refine AInBlock.pan ?_
              | refine AInBlock.normal ?_
              | refine AInBlock.ret ?_
              | refine AInBlock.same ?_
              | refine AInBlock.other rfl ?_)
          have hfin : nodeR (Tree.mk k o n s ns ks p) whole own fs = .ok (nameN 20 fs.length, setBody fs' fs.length ks') := by simp [nodeR, hk, h32, hd1, hl, ← hf, hr]
          refine bodyQ.cell rfl rfl (Freeze.agg7 (Freeze.same rfl) (Freeze.same rfl) (Freeze.same rfl) (Freeze.same rfl) Freeze.nil Freeze.nil (Freeze.same rfl)) ?_
          rw [hfin]
          have hold : ∀ j, (j < 3 ∨ 6 ≤ j) → j < M.length → ((M5.set 4 (.arr ver' 41 3 (fcells (setBody fs' fs.length ks')))).set 5 (.box [.int .i64 g, .mslice (.g 4) ver' fs'.length, .map (.g 3), ov]))[j]? = M[j]? := by
            intro j h3j hj
            rw [List.getElem?_set_ne (by omega), List.getElem?_set_ne (by omega), hK5.2 j h3j (Nat.lt_of_lt_of_le hj hK4.1), hK4.2 j h3j hj]
          refine ⟨rfl, ver', ⟨?_, ?_, ?_, ?_⟩, ?_, hold⟩
          · rw [List.getElem?_set_ne (by decide), List.getElem?_set_ne (by decide)]; exact p0
          · rw [List.getElem?_set_ne (by decide)]; exact set_at p1
          · rw [setBody_len]; exact set_at q2
          · cases own with
            | none => exact ho
            | some es =>
              simp only at ho ⊢
              obtain ⟨oo, ho3, ho4, ho5⟩ := ho
              exact ⟨oo, ho3, ho4, (hold oo (.inr ho3) (List.getElem?_eq_some_iff.1 ho5).1).trans ho5⟩
          · have h1 := hK4.1
            have h2 := hK5.1
            simp only [List.length_set]
            omega

end Go.Proofs.Ytceocfancfjdjaa
