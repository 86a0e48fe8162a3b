/- (D) The scopes: a tree's names are resolved. No condition. -/
import Derived.Test.YtceocfancfjdjaaScB
import Derived.Test.YtceocfancfjdjaaScZ
namespace Go.Proofs.Ytceocfancfjdjaa
open Go Go.RowKit
attribute [local irreducible] ACalls AOps AOp AWp AWpL AThen AInBlock bodyQ seq DOps

def declL (p : Int) : Ents → List ByteArray → Except (Int × Int) Ents
  | es, [] => .ok es
  | es, b :: r => match declE es b p with
    | .ok es' => declL p es' r
    | .error f => .error f

def setBody (fs : List FnR) (i : Nat) (l : List Tree) : List FnR := fs.modify i fun f => { f with body := some l }

mutual
def nodeR : Tree → Ents → Option Ents → List FnR → Except (Int × Int) (Tree × List FnR)
  | .mk k o n s ns ks p, whole, own, fs =>
    if k = 5 then match findR whole own s with
      | some (x, l) => .ok (nameN (if l then 18 else 19) x, fs)
      | none => .error (p, 14)
    else if k = 8 then
      if fs.length = 32 then .error (p, 5)
      else match declL p [] ns with
        | .error f => .error f
        | .ok es1 => match letsL es1 ks with
          | .error f => .error f
          | .ok es2 => match nodesR ks whole (some es2) (fs ++ [⟨ns.length, es2.length, none⟩]) with
            | .error f => .error f
            | .ok (ks', fs') => .ok (nameN 20 fs.length, setBody fs' fs.length ks')
    else if k = 21 ∨ k = 22 then match findR whole own s with
      | none => .error (p, 14)
      | some (x, l) => match nodesR ks whole own fs with
        | .error f => .error f
        | .ok (ks', fs') => .ok (.mk (if l then 33 else 34) 0 x nothing [] ks' 0, fs')
    else match nodesR ks whole own fs with
      | .error f => .error f
      | .ok (ks', fs') => .ok (.mk k o n s ns ks' 0, fs')
def nodesR : List Tree → Ents → Option Ents → List FnR → Except (Int × Int) (List Tree × List FnR)
  | [], _, _, fs => .ok ([], fs)
  | t :: r, whole, own, fs => match nodeR t whole own fs with
    | .error f => .error f
    | .ok (t', fs1) => match nodesR r whole own fs1 with
      | .error f => .error f
      | .ok (r', fs2) => .ok (t' :: r', fs2)
end

/-- No list is so long that it could not be copied. -/
def Tree.roomy : Tree → Prop
  | .mk _ _ _ _ ns ks _ => ns.length ≤ 1000000 ∧ ks.length ≤ 1000000 ∧ roomies ks
where roomies : List Tree → Prop
  | [] => True
  | t :: r => t.roomy ∧ roomies r

def Keep (M M' : List AObj) : Prop := M.length ≤ M'.length ∧ ∀ j, (j < 3 ∨ 6 ≤ j) → j < M.length → M'[j]? = M[j]?

/-- The first three blocks are as they were. -/
def Keep0 (M M' : List AObj) : Prop := ∀ j, j < 3 → j < M.length → M'[j]? = M[j]?

theorem Keep.refl (M : List AObj) : Keep M M := ⟨Nat.le_refl _, fun _ _ _ => rfl⟩
theorem Keep.trans {M M1 M2 : List AObj} (h : Keep M M1) (k : Keep M1 M2) : Keep M M2 :=
  ⟨Nat.le_trans h.1 k.1, fun j h3 hj => (k.2 j h3 (Nat.lt_of_lt_of_le hj h.1)).trans (h.2 j h3 hj)⟩
theorem Keep0.refl (M : List AObj) : Keep0 M M := fun _ _ _ => rfl
theorem Keep.trans0 {M M1 M2 : List AObj} (h : Keep M M1) (k : Keep0 M1 M2) : Keep0 M M2 :=
  fun j h3 hj => (k j h3 (Nat.lt_of_lt_of_le hj h.1)).trans (h.2 j (.inl h3) hj)

theorem rows_snoc (l : List Tree) (t : Tree) : rows (l ++ [t]) = rows l ++ t.cells := by
  induction l with
  | nil => simp [rows]
  | cons x r ih => simp only [List.cons_append, rows, ih, List.append_assoc]

theorem cells_ones (t : Tree) : ones t.cells = true := by cases t; rfl
theorem cells_pures (t : Tree) : pures t.cells = true := by cases t; rfl
theorem cells_len (t : Tree) : t.cells.length = 7 := by cases t; rfl
theorem rows_pures (l : List Tree) : pures (rows l) = true := by
  induction l with
  | nil => rfl
  | cons x r ih => simp only [rows, pures_append, cells_pures, ih, Bool.and_true]

def nodeQ (M : List AObj) (g : Int) (whole : Ents) (own : Option Ents) (ov : CV) (res : Except (Int × Int) (Tree × List FnR)) (r : ARes) (M' : List AObj) : Prop :=
  match res with
  | .ok (t', fs') => r = .ret t'.cv ∧ ∃ ver', RSt M' g ver' fs' whole own ov ∧ Keep M M'
  | .error f => r = .pan (faultV f) ∧ Keep0 M M'

def nodesQ (M : List AObj) (g : Int) (whole : Ents) (own : Option Ents) (ov : CV) (res : Except (Int × Int) (List Tree × List FnR)) (r : ARes) (M' : List AObj) : Prop :=
  match res with
  | .ok (ks', fs') => r = .ret (.islice (rows ks') ks'.length) ∧ ∃ ver', RSt M' g ver' fs' whole own ov ∧ Keep M M'
  | .error f => r = .pan (faultV f) ∧ Keep0 M M'

/-- What came out so far, and what is still to come. -/
def glue (out : List Tree) (res : Except (Int × Int) (List Tree × List FnR)) : Except (Int × Int) (List Tree × List FnR) :=
  match res with
  | .error f => .error f
  | .ok (r', fs2) => .ok (out ++ r', fs2)

theorem glue_nil (res : Except (Int × Int) (List Tree × List FnR)) : glue [] res = res := by
  cases res with
  | error f => rfl
  | ok p => rfl

theorem nodesR_drop (ks : List Tree) {j : Nat} (h : j < ks.length) (whole : Ents) (own : Option Ents) (fs : List FnR) (out : List Tree) :
    glue out (nodesR (ks.drop j) whole own fs) = match nodeR ks[j] whole own fs with
      | .error f => .error f
      | .ok (t', fs1) => glue (out ++ [t']) (nodesR (ks.drop (j + 1)) whole own fs1) := by
  rw [List.drop_eq_getElem_cons h]
  simp only [nodesR]
  cases nodeR ks[j] whole own fs with
  | error f => rfl
  | ok p =>
    obtain ⟨t', fs1⟩ := p
    simp only
    cases nodesR (ks.drop (j + 1)) whole own fs1 with
    | error f => rfl
    | ok q => simp [glue]

set_option maxHeartbeats 4000000 in
theorem nodes_ok (ks : List Tree) (g : Int) (whole : Ents) (own : Option Ents) (ov : CV) (hlen : ks.length ≤ 1000000)
    (hnode : ∀ t, t ∈ ks → ∀ (M : List AObj) (ver : Nat) (fs : List FnR), RSt M g ver fs whole own ov → fs.length ≤ 32 → ACalls 30 [.ptr (.g 5) 0 0, t.cv] M (nodeQ M g whole own ov (nodeR t whole own fs)))
    (hfs : ∀ t, t ∈ ks → ∀ (fs : List FnR) t' fs', fs.length ≤ 32 → nodeR t whole own fs = .ok (t', fs') → fs'.length ≤ 32)
    (M : List AObj) (ver : Nat) (fs : List FnR) (hR : RSt M g ver fs whole own ov) (hle : fs.length ≤ 32) :
    ACalls 19 [.ptr (.g 5) 0 0, .islice (rows ks) ks.length] M (nodesQ M g whole own ov (nodesR ks whole own fs)) := by
  refine ACalls.of_body Try.func19 rfl rfl rfl ?_
  simp only [Try.ntmps19, frOf]
  repeat' (first
      | (show DOps _ _ _ _ _ _ _ _ _ _ _; first
          | refine D.end ?_
          | refine D.val (.inl rfl) rfl rfl rfl ?_
          | refine D.leave rfl rfl rfl rfl ?_
          | refine D.val (Wants.take rfl rfl) rfl rfl rfl ?_
          | refine D.cmp rfl (.inl rfl) rfl rfl rfl (fun _ => ?_) (fun _ => ?_)
          | refine D.valO (.inl rfl) rfl rfl rfl rfl ?_
          | refine D.build (.inl rfl) rfl rfl rfl rfl rfl rfl rfl ?_
          | refine D.buildSlice (.inl rfl) rfl rfl rfl rfl rfl rfl rfl rfl rfl ?_
          | refine D.cmp rfl (Wants.take rfl rfl) rfl rfl rfl (fun _ => ?_) (fun _ => ?_)
          | refine D.valO (Wants.take rfl rfl) rfl rfl rfl rfl ?_
          | refine D.build (Wants.take rfl rfl) rfl rfl rfl rfl rfl rfl rfl ?_
          | refine D.buildSlice (Wants.take rfl rfl) rfl rfl rfl rfl rfl rfl rfl rfl rfl ?_)
      | (show AOps _ _ _ _ _ _; first
          | refine AOps.nil ?_
          | refine AOps.plain rfl (W.pure rfl rfl rfl ?_)
          | refine AOps.plain rfl (W.cmp rfl rfl rfl rfl (fun _ => ?_) (fun _ => ?_))
          | refine W.leave rfl rfl rfl rfl ?_
          | refine AOps.take rfl rfl (W.pure rfl rfl rfl ?_)
          | refine AOps.take rfl rfl (W.cmp rfl rfl rfl rfl (fun _ => ?_) (fun _ => ?_))
          | refine AOps.plain rfl (W.boxI rfl rfl rfl rfl rfl rfl ?_)
          | refine AOps.plain rfl (W.build rfl rfl rfl rfl rfl rfl rfl ?_)
          | refine AOps.plain rfl (W.alloc rfl rfl rfl rfl rfl ?_)
          | refine AOps.plain rfl (W.storeL rfl rfl rfl rfl rfl rfl rfl rfl rfl ?_)
          | refine AOps.plain rfl (W.buildSlice rfl rfl rfl rfl rfl rfl rfl rfl rfl ?_))
      | (show AWp _ _ _ _ _; first
          | refine AWp.seq ?_
          | refine AWp.region ?_
          | refine AWp.condT rfl ?_
          | refine AWp.condF rfl ?_
          | refine AWp.skip ?_
          | refine AWp.block ?_
          | refine AWp.exit ?_
          | refine AWp.ret ?_
          | refine AWp.draw0 (by kernel_rfl) ?_)
      | refine AThen.normal ?_
      | refine AThen.exit ?_
      | refine AThen.ret ?_
      | refine AThen.pan ?_
      | refine AInBlock.pan ?_
      | refine AInBlock.normal ?_
      | refine AInBlock.ret ?_
      | refine AInBlock.same ?_
      | refine AInBlock.other rfl ?_)
  refine AWp.loop ?_
  refine AWpL.upto (fun j st => ∃ (out : List Tree) (fsj : List FnR) (verj : Nat) (Mj : List AObj), nodesR ks whole own fs = glue out (nodesR (ks.drop j) whole own fsj) ∧ RSt Mj g verj fsj whole own ov ∧ Keep M Mj ∧ fsj.length ≤ 32 ∧ out.length = j ∧
    ((j = 0 ∧ ∃ fr, st = { fr := fr, loc := [], M := Mj, ds := [] } ∧ Sub fr [(5, .nilslice), (0, .ptr (.g 5) 0 0), (8, .islice (rows ks) ks.length), (9, .int .i64 (ks.length : Int)), (10, .int .i64 (j : Int))]) ∨
     (0 < j ∧ ∃ v, st = { fr := [(5, .mslice (.l 19) v j), (0, .ptr (.g 5) 0 0), (8, .islice (rows ks) ks.length), (9, .int .i64 (ks.length : Int)), (10, .int .i64 (j : Int))], loc := [(19, .arr v 25 7 (rows out))], M := Mj, ds := [] })))
    ks.length ?_ 0 _ (Nat.zero_le _)
    ⟨[], fs, ver, M, (glue_nil _).symm, hR, Keep.refl M, hle, rfl, .inl ⟨rfl, _, rfl, rfl, rfl, rfl, rfl, rfl, trivial⟩⟩
  rintro j st hj ⟨out, fsj, verj, Mj, hpre, hRj, hKj, hlej, hout, hst⟩ hnext
  by_cases hlt : j < ks.length
  · have hkid := ld_kid hlt
    have hdrop := nodesR_drop ks hlt whole own fsj out
    have hcall := hnode ks[j] (List.getElem_mem hlt) Mj verj fsj hRj hlej
    have hfsj := hfs ks[j] (List.getElem_mem hlt) fsj
    clear hnode hfs
    generalize ks[j] = t at hkid hdrop hcall hfsj
    obtain ⟨k, o, n, s, ns, ks2, p⟩ := t
    cases hres : nodeR (Tree.mk k o n s ns ks2 p) whole own fsj with
    | error f =>
      rw [hres] at hcall hdrop
      have hc := ACalls.mono (QQ' := fun r M' => r = .pan (faultV f) ∧ Keep0 Mj M') hcall (fun r M' h => h)
      have hfin : nodesR ks whole own fs = .error f := hpre.trans hdrop
      clear hcall hnext hpre hdrop
      rcases hst with ⟨_, fr, rfl, hsub⟩ | ⟨_, v, rfl⟩
      · refine AWp.mask hsub ?_
        repeat' (first
            | (show DOps _ _ _ _ _ _ _ _ _ _ _; first
                | refine D.end ?_
                | refine D.val (.inl rfl) rfl rfl rfl ?_
                | refine D.leave rfl rfl rfl rfl ?_
                | refine D.val (Wants.take rfl rfl) rfl rfl rfl ?_
                | refine (D.cmpT rfl (.inl rfl) rfl rfl rfl (decide_eq_true (by omega)) ?_)
                | refine D.cmp rfl (.inl rfl) rfl rfl rfl (fun _ => ?_) (fun _ => ?_)
                | refine D.valO (.inl rfl) rfl rfl rfl rfl ?_
                | refine D.build (.inl rfl) rfl rfl rfl rfl rfl rfl rfl ?_
                | refine D.buildSlice (.inl rfl) rfl rfl rfl rfl rfl rfl rfl rfl rfl ?_
                | refine (D.cmpT rfl (Wants.take rfl rfl) rfl rfl rfl (decide_eq_true (by omega)) ?_)
                | refine D.cmp rfl (Wants.take rfl rfl) rfl rfl rfl (fun _ => ?_) (fun _ => ?_)
                | refine D.valO (Wants.take rfl rfl) rfl rfl rfl rfl ?_
                | refine D.build (Wants.take rfl rfl) rfl rfl rfl rfl rfl rfl rfl ?_
                | refine D.buildSlice (Wants.take rfl rfl) rfl rfl rfl rfl rfl rfl rfl rfl rfl ?_)
            | (show AOps _ _ _ _ _ _; first
                | refine AOps.nil ?_
                | refine AOps.plain rfl (W.pure rfl rfl rfl ?_)
                | refine AOps.plain rfl (W.cmpT rfl rfl rfl rfl (decide_eq_true (by omega)) ?_)
                | refine AOps.plain rfl (W.indexAddr rfl rfl rfl rfl rfl rfl (by omega) (by omega) (rows_ne hlt) ?_)
                | refine AOps.plain rfl (W.loadRow rfl rfl rfl rfl hkid ?_)
                | refine AOps.plain rfl (W.callP rfl rfl rfl rfl rfl hc rfl rfl (fun M' hM' => ?_))
                | refine AOps.plain rfl (W.cmp rfl rfl rfl rfl (fun _ => ?_) (fun _ => ?_))
                | refine W.leave rfl rfl rfl rfl ?_
                | refine AOps.take rfl rfl (W.pure rfl rfl rfl ?_)
                | refine AOps.take rfl rfl (W.cmpT rfl rfl rfl rfl (decide_eq_true (by omega)) ?_)
                | refine AOps.take rfl rfl (W.indexAddr rfl rfl rfl rfl rfl rfl (by omega) (by omega) (rows_ne hlt) ?_)
                | refine AOps.take rfl rfl (W.loadRow rfl rfl rfl rfl hkid ?_)
                | refine AOps.take rfl rfl (W.callP rfl rfl rfl rfl rfl hc rfl rfl (fun M' hM' => ?_))
                | refine AOps.take rfl rfl (W.cmp rfl rfl rfl rfl (fun _ => ?_) (fun _ => ?_))
                | refine AOps.plain rfl (W.boxI rfl rfl rfl rfl rfl rfl ?_)
                | refine AOps.plain rfl (W.build rfl rfl rfl rfl rfl rfl rfl ?_)
                | refine AOps.plain rfl (W.alloc rfl rfl rfl rfl rfl ?_)
                | refine AOps.plain rfl (W.storeL rfl rfl rfl rfl rfl rfl rfl rfl rfl ?_)
                | refine AOps.plain rfl (W.buildSlice rfl rfl rfl rfl rfl rfl rfl rfl rfl ?_))
            | (show AWp _ _ _ _ _; first
                | refine AWp.seq ?_
                | refine AWp.region ?_
                | refine AWp.condT rfl ?_
                | refine AWp.condF rfl ?_
                | refine AWp.skip ?_
                | refine AWp.block ?_
                | refine AWp.exit ?_
                | refine AWp.ret ?_
                | refine AWp.draw0 (by kernel_rfl) ?_)
            | refine AThen.normal ?_
            | refine AThen.exit ?_
            | refine AThen.ret ?_
            | refine AThen.pan ?_
            | refine AInBlock.pan ?_
            | refine AInBlock.normal ?_
            | refine AInBlock.ret ?_
            | refine AInBlock.same ?_
            | refine AInBlock.other rfl ?_)
        refine bodyQ.pan rfl ?_
        rw [hfin]
        exact ⟨rfl, hKj.trans0 hM'⟩
      · repeat' (first
          | (show DOps _ _ _ _ _ _ _ _ _ _ _; first
              | refine D.end ?_
              | refine D.val (.inl rfl) rfl rfl rfl ?_
              | refine D.leave rfl rfl rfl rfl ?_
              | refine D.val (Wants.take rfl rfl) rfl rfl rfl ?_
              | refine (D.cmpT rfl (.inl rfl) rfl rfl rfl (decide_eq_true (by omega)) ?_)
              | refine D.cmp rfl (.inl rfl) rfl rfl rfl (fun _ => ?_) (fun _ => ?_)
              | refine D.valO (.inl rfl) rfl rfl rfl rfl ?_
              | refine D.build (.inl rfl) rfl rfl rfl rfl rfl rfl rfl ?_
              | refine D.buildSlice (.inl rfl) rfl rfl rfl rfl rfl rfl rfl rfl rfl ?_
              | refine (D.cmpT rfl (Wants.take rfl rfl) rfl rfl rfl (decide_eq_true (by omega)) ?_)
              | refine D.cmp rfl (Wants.take rfl rfl) rfl rfl rfl (fun _ => ?_) (fun _ => ?_)
              | refine D.valO (Wants.take rfl rfl) rfl rfl rfl rfl ?_
              | refine D.build (Wants.take rfl rfl) rfl rfl rfl rfl rfl rfl rfl ?_
              | refine D.buildSlice (Wants.take rfl rfl) rfl rfl rfl rfl rfl rfl rfl rfl rfl ?_)
          | (show AOps _ _ _ _ _ _; first
              | refine AOps.nil ?_
              | refine AOps.plain rfl (W.pure rfl rfl rfl ?_)
              | refine AOps.plain rfl (W.cmpT rfl rfl rfl rfl (decide_eq_true (by omega)) ?_)
              | refine AOps.plain rfl (W.indexAddr rfl rfl rfl rfl rfl rfl (by omega) (by omega) (rows_ne hlt) ?_)
              | refine AOps.plain rfl (W.loadRow rfl rfl rfl rfl hkid ?_)
              | refine AOps.plain rfl (W.callP rfl rfl rfl rfl rfl hc rfl rfl (fun M' hM' => ?_))
              | refine AOps.plain rfl (W.cmp rfl rfl rfl rfl (fun _ => ?_) (fun _ => ?_))
              | refine W.leave rfl rfl rfl rfl ?_
              | refine AOps.take rfl rfl (W.pure rfl rfl rfl ?_)
              | refine AOps.take rfl rfl (W.cmpT rfl rfl rfl rfl (decide_eq_true (by omega)) ?_)
              | refine AOps.take rfl rfl (W.indexAddr rfl rfl rfl rfl rfl rfl (by omega) (by omega) (rows_ne hlt) ?_)
              | refine AOps.take rfl rfl (W.loadRow rfl rfl rfl rfl hkid ?_)
              | refine AOps.take rfl rfl (W.callP rfl rfl rfl rfl rfl hc rfl rfl (fun M' hM' => ?_))
              | refine AOps.take rfl rfl (W.cmp rfl rfl rfl rfl (fun _ => ?_) (fun _ => ?_))
              | refine AOps.plain rfl (W.boxI rfl rfl rfl rfl rfl rfl ?_)
              | refine AOps.plain rfl (W.build rfl rfl rfl rfl rfl rfl rfl ?_)
              | refine AOps.plain rfl (W.alloc rfl rfl rfl rfl rfl ?_)
              | refine AOps.plain rfl (W.storeL rfl rfl rfl rfl rfl rfl rfl rfl rfl ?_)
              | refine AOps.plain rfl (W.buildSlice rfl rfl rfl rfl rfl rfl rfl rfl rfl ?_))
          | (show AWp _ _ _ _ _; first
              | refine AWp.seq ?_
              | refine AWp.region ?_
              | refine AWp.condT rfl ?_
              | refine AWp.condF rfl ?_
              | refine AWp.skip ?_
              | refine AWp.block ?_
              | refine AWp.exit ?_
              | refine AWp.ret ?_
              | refine AWp.draw0 (by kernel_rfl) ?_)
          | refine AThen.normal ?_
          | refine AThen.exit ?_
          | refine AThen.ret ?_
          | refine AThen.pan ?_
          | refine AInBlock.pan ?_
          | refine AInBlock.normal ?_
          | refine AInBlock.ret ?_
          | refine AInBlock.same ?_
          | refine AInBlock.other rfl ?_)
        refine bodyQ.pan rfl ?_
        rw [hfin]
        exact ⟨rfl, hKj.trans0 hM'⟩
    | ok q =>
      obtain ⟨t', fs1⟩ := q
      rw [hres] at hcall hdrop
      have hc := ACalls.mono (QQ' := fun r M' => r = .ret t'.cv ∧ ∃ ver', RSt M' g ver' fs1 whole own ov ∧ Keep Mj M') hcall (fun r M' h => h)
      have hfin : nodesR ks whole own fs = glue (out ++ [t']) (nodesR (ks.drop (j + 1)) whole own fs1) := hpre.trans hdrop
      have hfs1 := hfsj t' fs1 hlej hres
      have hsn := rows_snoc out t'
      have hrl := rows_length out
      rw [hout] at hrl
      clear hcall hpre hdrop hfsj
      obtain ⟨k', o', n', s', ns', ks', p'⟩ := t'
      rcases hst with ⟨hj0, fr, rfl, hsub⟩ | ⟨hjp, v, rfl⟩
      · subst hj0
        have ho : out = [] := List.eq_nil_of_length_eq_zero hout
        subst ho
        refine AWp.mask hsub ?_
        clear hsub
        repeat' (first
            | (show DOps _ _ _ _ _ _ _ _ _ _ _; first
                | refine D.end ?_
                | refine D.val (.inl rfl) rfl rfl rfl ?_
                | refine D.leave rfl rfl rfl rfl ?_
                | refine D.val (Wants.take rfl rfl) rfl rfl rfl ?_
                | refine (D.cmpT rfl (.inl rfl) rfl rfl rfl (decide_eq_true (by omega)) ?_)
                | refine D.cmp rfl (.inl rfl) rfl rfl rfl (fun _ => ?_) (fun _ => ?_)
                | refine D.valO (.inl rfl) rfl rfl rfl rfl ?_
                | refine D.build (.inl rfl) rfl rfl rfl rfl rfl rfl rfl ?_
                | refine D.buildSlice (.inl rfl) rfl rfl rfl rfl rfl rfl rfl rfl rfl ?_
                | refine (D.cmpT rfl (Wants.take rfl rfl) rfl rfl rfl (decide_eq_true (by omega)) ?_)
                | refine D.cmp rfl (Wants.take rfl rfl) rfl rfl rfl (fun _ => ?_) (fun _ => ?_)
                | refine D.valO (Wants.take rfl rfl) rfl rfl rfl rfl ?_
                | refine D.build (Wants.take rfl rfl) rfl rfl rfl rfl rfl rfl rfl ?_
                | refine D.buildSlice (Wants.take rfl rfl) rfl rfl rfl rfl rfl rfl rfl rfl rfl ?_)
            | (show AOps _ _ _ _ _ _; first
                | refine AOps.nil ?_
                | refine AOps.plain rfl (W.pure rfl rfl rfl ?_)
                | refine AOps.plain rfl (W.cmpT rfl rfl rfl rfl (decide_eq_true (by omega)) ?_)
                | refine AOps.plain rfl (W.indexAddr rfl rfl rfl rfl rfl rfl (by omega) (by omega) (rows_ne hlt) ?_)
                | refine AOps.plain rfl (W.loadRow rfl rfl rfl rfl hkid ?_)
                | refine AOps.plain rfl (W.callM rfl rfl rfl rfl rfl hc rfl rfl rfl (fun M' hM' => ?_))
                | refine AOps.plain rfl (W.appendNilL rfl rfl rfl rfl rfl (Nat.succ_pos _) (by decide) (by decide) rfl rfl rfl ?_)
                | refine AOps.plain rfl (W.cmp rfl rfl rfl rfl (fun _ => ?_) (fun _ => ?_))
                | refine W.leave rfl rfl rfl rfl ?_
                | refine AOps.take rfl rfl (W.pure rfl rfl rfl ?_)
                | refine AOps.take rfl rfl (W.cmpT rfl rfl rfl rfl (decide_eq_true (by omega)) ?_)
                | refine AOps.take rfl rfl (W.indexAddr rfl rfl rfl rfl rfl rfl (by omega) (by omega) (rows_ne hlt) ?_)
                | refine AOps.take rfl rfl (W.loadRow rfl rfl rfl rfl hkid ?_)
                | refine AOps.take rfl rfl (W.callM rfl rfl rfl rfl rfl hc rfl rfl rfl (fun M' hM' => ?_))
                | refine AOps.take rfl rfl (W.appendNilL rfl rfl rfl rfl rfl (Nat.succ_pos _) (by decide) (by decide) rfl rfl rfl ?_)
                | refine AOps.take rfl rfl (W.cmp rfl rfl rfl rfl (fun _ => ?_) (fun _ => ?_))
                | refine AOps.plain rfl (W.boxI rfl rfl rfl rfl rfl rfl ?_)
                | refine AOps.plain rfl (W.build rfl rfl rfl rfl rfl rfl rfl ?_)
                | refine AOps.plain rfl (W.alloc rfl rfl rfl rfl rfl ?_)
                | refine AOps.plain rfl (W.storeL rfl rfl rfl rfl rfl rfl rfl rfl rfl ?_)
                | refine AOps.plain rfl (W.buildSlice rfl rfl rfl rfl rfl rfl rfl rfl rfl ?_))
            | (show AWp _ _ _ _ _; first
                | refine AWp.seq ?_
                | refine AWp.region ?_
                | refine AWp.condT rfl ?_
                | refine AWp.condF rfl ?_
                | refine AWp.skip ?_
                | refine AWp.block ?_
                | refine AWp.exit ?_
                | refine AWp.ret ?_
                | refine AWp.draw0 (by kernel_rfl) ?_)
            | refine AThen.normal ?_
            | refine AThen.exit ?_
            | refine AThen.ret ?_
            | refine AThen.pan ?_
            | refine AInBlock.pan ?_
            | refine AInBlock.normal ?_
            | refine AInBlock.ret ?_
            | refine AInBlock.same ?_
            | refine AInBlock.other rfl ?_)
        obtain ⟨ver', hR', hK'⟩ := hM'
        refine AWpL.freshA (d := 5) (fr' := [(0, .ptr (.g 5) 0 0), (8, .islice (rows ks) ks.length), (9, .int .i64 (ks.length : Int)), (10, .int .i64 ((0 + 1 : Nat) : Int))])
          ⟨rfl, rfl, rfl, rfl, subInt (wrapAdd (by omega) (by omega)), trivial⟩ rfl rfl rfl
          (hnext.out _ hlt ⟨_, fs1, ver', _, hfin, hR', hKj.trans hK', hfs1, rfl, .inr ⟨by omega, 0, rfl⟩⟩)
      · repeat' (first
          | (show DOps _ _ _ _ _ _ _ _ _ _ _; first
              | refine D.end ?_
              | refine D.val (.inl rfl) rfl rfl rfl ?_
              | refine D.leave rfl rfl rfl rfl ?_
              | refine D.val (Wants.take rfl rfl) rfl rfl rfl ?_
              | refine (D.cmpT rfl (.inl rfl) rfl rfl rfl (decide_eq_true (by omega)) ?_)
              | refine D.cmp rfl (.inl rfl) rfl rfl rfl (fun _ => ?_) (fun _ => ?_)
              | refine D.valO (.inl rfl) rfl rfl rfl rfl ?_
              | refine D.build (.inl rfl) rfl rfl rfl rfl rfl rfl rfl ?_
              | refine D.buildSlice (.inl rfl) rfl rfl rfl rfl rfl rfl rfl rfl rfl ?_
              | refine (D.cmpT rfl (Wants.take rfl rfl) rfl rfl rfl (decide_eq_true (by omega)) ?_)
              | refine D.cmp rfl (Wants.take rfl rfl) rfl rfl rfl (fun _ => ?_) (fun _ => ?_)
              | refine D.valO (Wants.take rfl rfl) rfl rfl rfl rfl ?_
              | refine D.build (Wants.take rfl rfl) rfl rfl rfl rfl rfl rfl rfl ?_
              | refine D.buildSlice (Wants.take rfl rfl) rfl rfl rfl rfl rfl rfl rfl rfl rfl ?_)
          | (show AOps _ _ _ _ _ _; first
              | refine AOps.nil ?_
              | refine AOps.plain rfl (W.pure rfl rfl rfl ?_)
              | refine AOps.plain rfl (W.cmpT rfl rfl rfl rfl (decide_eq_true (by omega)) ?_)
              | refine AOps.plain rfl (W.indexAddr rfl rfl rfl rfl rfl rfl (by omega) (by omega) (rows_ne hlt) ?_)
              | refine AOps.plain rfl (W.loadRow rfl rfl rfl rfl hkid ?_)
              | refine AOps.plain rfl (W.callM rfl rfl rfl rfl rfl hc rfl rfl rfl (fun M' hM' => ?_))
              | refine AOps.plain rfl (W.appendL rfl rfl rfl rfl (by omega) rfl rfl rfl (Nat.succ_pos _) (by omega) (by omega) hsn.symm rfl rfl rfl ?_)
              | refine AOps.plain rfl (W.cmp rfl rfl rfl rfl (fun _ => ?_) (fun _ => ?_))
              | refine W.leave rfl rfl rfl rfl ?_
              | refine AOps.take rfl rfl (W.pure rfl rfl rfl ?_)
              | refine AOps.take rfl rfl (W.cmpT rfl rfl rfl rfl (decide_eq_true (by omega)) ?_)
              | refine AOps.take rfl rfl (W.indexAddr rfl rfl rfl rfl rfl rfl (by omega) (by omega) (rows_ne hlt) ?_)
              | refine AOps.take rfl rfl (W.loadRow rfl rfl rfl rfl hkid ?_)
              | refine AOps.take rfl rfl (W.callM rfl rfl rfl rfl rfl hc rfl rfl rfl (fun M' hM' => ?_))
              | refine AOps.take rfl rfl (W.appendL rfl rfl rfl rfl (by omega) rfl rfl rfl (Nat.succ_pos _) (by omega) (by omega) hsn.symm rfl rfl rfl ?_)
              | refine AOps.take rfl rfl (W.cmp rfl rfl rfl rfl (fun _ => ?_) (fun _ => ?_))
              | refine AOps.plain rfl (W.boxI rfl rfl rfl rfl rfl rfl ?_)
              | refine AOps.plain rfl (W.build rfl rfl rfl rfl rfl rfl rfl ?_)
              | refine AOps.plain rfl (W.alloc rfl rfl rfl rfl rfl ?_)
              | refine AOps.plain rfl (W.storeL rfl rfl rfl rfl rfl rfl rfl rfl rfl ?_)
              | refine AOps.plain rfl (W.buildSlice rfl rfl rfl rfl rfl rfl rfl rfl rfl ?_))
          | (show AWp _ _ _ _ _; first
              | refine AWp.seq ?_
              | refine AWp.region ?_
              | refine AWp.condT rfl ?_
              | refine AWp.condF rfl ?_
              | refine AWp.skip ?_
              | refine AWp.block ?_
              | refine AWp.exit ?_
              | refine AWp.ret ?_
              | refine AWp.draw0 (by kernel_rfl) ?_)
          | refine AThen.normal ?_
          | refine AThen.exit ?_
          | refine AThen.ret ?_
          | refine AThen.pan ?_
          | refine AInBlock.pan ?_
          | refine AInBlock.normal ?_
          | refine AInBlock.ret ?_
          | refine AInBlock.same ?_
          | refine AInBlock.other rfl ?_)
        obtain ⟨ver', hR', hK'⟩ := hM'
        refine AWpL.freshA (d := 5) (fr' := [(0, .ptr (.g 5) 0 0), (8, .islice (rows ks) ks.length), (9, .int .i64 (ks.length : Int)), (10, .int .i64 ((j + 1 : Nat) : Int))])
          ⟨rfl, rfl, rfl, rfl, subInt (wrapAdd (by omega) (by omega)), trivial⟩ rfl rfl (rows_pures _)
          (hnext.out _ hlt ⟨_, fs1, ver', _, hfin, hR', hKj.trans hK', hfs1, by simp [hout], .inr ⟨by omega, v + 1, rfl⟩⟩)
  · have hfin : nodesR ks whole own fs = .ok (out, fsj) := by rw [hpre, List.drop_eq_nil_of_le (by omega)]; simp [nodesR, glue]
    have hrl := rows_length out
    rw [hout] at hrl
    clear hnext hnode hfs
    rcases hst with ⟨hj0, fr, rfl, hsub⟩ | ⟨hjp, v, rfl⟩
    · refine AWp.mask hsub ?_
      repeat' (first
          | (show DOps _ _ _ _ _ _ _ _ _ _ _; first
              | refine D.end ?_
              | refine D.val (.inl rfl) rfl rfl rfl ?_
              | refine D.leave rfl rfl rfl rfl ?_
              | refine D.val (Wants.take rfl rfl) rfl rfl rfl ?_
              | refine (D.cmpF rfl (.inl rfl) rfl rfl rfl (decide_eq_false (by omega)) ?_)
              | refine D.cmp rfl (.inl rfl) rfl rfl rfl (fun _ => ?_) (fun _ => ?_)
              | refine D.valO (.inl rfl) rfl rfl rfl rfl ?_
              | refine D.build (.inl rfl) rfl rfl rfl rfl rfl rfl rfl ?_
              | refine D.buildSlice (.inl rfl) rfl rfl rfl rfl rfl rfl rfl rfl rfl ?_
              | refine (D.cmpF rfl (Wants.take rfl rfl) rfl rfl rfl (decide_eq_false (by omega)) ?_)
              | refine D.cmp rfl (Wants.take rfl rfl) rfl rfl rfl (fun _ => ?_) (fun _ => ?_)
              | refine D.valO (Wants.take rfl rfl) rfl rfl rfl rfl ?_
              | refine D.build (Wants.take rfl rfl) rfl rfl rfl rfl rfl rfl rfl ?_
              | refine D.buildSlice (Wants.take rfl rfl) rfl rfl rfl rfl rfl rfl rfl rfl rfl ?_)
          | (show AOps _ _ _ _ _ _; first
              | refine AOps.nil ?_
              | refine AOps.plain rfl (W.pure rfl rfl rfl ?_)
              | refine AOps.plain rfl (W.cmpF rfl rfl rfl rfl (decide_eq_false (by omega)) ?_)
              | refine AOps.plain rfl (W.cmp rfl rfl rfl rfl (fun _ => ?_) (fun _ => ?_))
              | refine W.leave rfl rfl rfl rfl ?_
              | refine AOps.take rfl rfl (W.pure rfl rfl rfl ?_)
              | refine AOps.take rfl rfl (W.cmpF rfl rfl rfl rfl (decide_eq_false (by omega)) ?_)
              | refine AOps.take rfl rfl (W.cmp rfl rfl rfl rfl (fun _ => ?_) (fun _ => ?_))
              | refine AOps.plain rfl (W.boxI rfl rfl rfl rfl rfl rfl ?_)
              | refine AOps.plain rfl (W.build rfl rfl rfl rfl rfl rfl rfl ?_)
              | refine AOps.plain rfl (W.alloc rfl rfl rfl rfl rfl ?_)
              | refine AOps.plain rfl (W.storeL rfl rfl rfl rfl rfl rfl rfl rfl rfl ?_)
              | refine AOps.plain rfl (W.buildSlice rfl rfl rfl rfl rfl rfl rfl rfl rfl ?_))
          | (show AWp _ _ _ _ _; first
              | refine AWp.seq ?_
              | refine AWp.region ?_
              | refine AWp.condT rfl ?_
              | refine AWp.condF rfl ?_
              | refine AWp.skip ?_
              | refine AWp.block ?_
              | refine AWp.exit ?_
              | refine AWp.ret ?_
              | refine AWp.draw0 (by kernel_rfl) ?_)
          | refine AThen.normal ?_
          | refine AThen.exit ?_
          | refine AThen.ret ?_
          | refine AThen.pan ?_
          | refine AInBlock.pan ?_
          | refine AInBlock.normal ?_
          | refine AInBlock.ret ?_
          | refine AInBlock.same ?_
          | refine AInBlock.other rfl ?_)
      refine bodyQ.oneF rfl rfl Freeze.nil ?_
      rw [hfin]
      have ho : out = [] := List.eq_nil_of_length_eq_zero (by omega)
      subst ho
      exact ⟨rfl, verj, hRj, hKj⟩
    · repeat' (first
        | (show DOps _ _ _ _ _ _ _ _ _ _ _; first
            | refine D.end ?_
            | refine D.val (.inl rfl) rfl rfl rfl ?_
            | refine D.leave rfl rfl rfl rfl ?_
            | refine D.val (Wants.take rfl rfl) rfl rfl rfl ?_
            | refine (D.cmpF rfl (.inl rfl) rfl rfl rfl (decide_eq_false (by omega)) ?_)
            | refine D.cmp rfl (.inl rfl) rfl rfl rfl (fun _ => ?_) (fun _ => ?_)
            | refine D.valO (.inl rfl) rfl rfl rfl rfl ?_
            | refine D.build (.inl rfl) rfl rfl rfl rfl rfl rfl rfl ?_
            | refine D.buildSlice (.inl rfl) rfl rfl rfl rfl rfl rfl rfl rfl rfl ?_
            | refine (D.cmpF rfl (Wants.take rfl rfl) rfl rfl rfl (decide_eq_false (by omega)) ?_)
            | refine D.cmp rfl (Wants.take rfl rfl) rfl rfl rfl (fun _ => ?_) (fun _ => ?_)
            | refine D.valO (Wants.take rfl rfl) rfl rfl rfl rfl ?_
            | refine D.build (Wants.take rfl rfl) rfl rfl rfl rfl rfl rfl rfl ?_
            | refine D.buildSlice (Wants.take rfl rfl) rfl rfl rfl rfl rfl rfl rfl rfl rfl ?_)
        | (show AOps _ _ _ _ _ _; first
            | refine AOps.nil ?_
            | refine AOps.plain rfl (W.pure rfl rfl rfl ?_)
            | refine AOps.plain rfl (W.cmpF rfl rfl rfl rfl (decide_eq_false (by omega)) ?_)
            | refine AOps.plain rfl (W.cmp rfl rfl rfl rfl (fun _ => ?_) (fun _ => ?_))
            | refine W.leave rfl rfl rfl rfl ?_
            | refine AOps.take rfl rfl (W.pure rfl rfl rfl ?_)
            | refine AOps.take rfl rfl (W.cmpF rfl rfl rfl rfl (decide_eq_false (by omega)) ?_)
            | refine AOps.take rfl rfl (W.cmp rfl rfl rfl rfl (fun _ => ?_) (fun _ => ?_))
            | refine AOps.plain rfl (W.boxI rfl rfl rfl rfl rfl rfl ?_)
            | refine AOps.plain rfl (W.build rfl rfl rfl rfl rfl rfl rfl ?_)
            | refine AOps.plain rfl (W.alloc rfl rfl rfl rfl rfl ?_)
            | refine AOps.plain rfl (W.storeL rfl rfl rfl rfl rfl rfl rfl rfl rfl ?_)
            | refine AOps.plain rfl (W.buildSlice rfl rfl rfl rfl rfl rfl rfl rfl rfl ?_))
        | (show AWp _ _ _ _ _; first
            | refine AWp.seq ?_
            | refine AWp.region ?_
            | refine AWp.condT rfl ?_
            | refine AWp.condF rfl ?_
            | refine AWp.skip ?_
            | refine AWp.block ?_
            | refine AWp.exit ?_
            | refine AWp.ret ?_
            | refine AWp.draw0 (by kernel_rfl) ?_)
        | refine AThen.normal ?_
        | refine AThen.exit ?_
        | refine AThen.ret ?_
        | refine AThen.pan ?_
        | refine AInBlock.pan ?_
        | refine AInBlock.normal ?_
        | refine AInBlock.ret ?_
        | refine AInBlock.same ?_
        | refine AInBlock.other rfl ?_)
      refine bodyQ.oneF rfl rfl (Freeze.slice rfl (rows_pures _) (by omega) (by decide)) ?_
      rw [hfin]
      exact ⟨by rw [hout], verj, hRj, hKj⟩

end Go.Proofs.Ytceocfancfjdjaa
