/- (D) A tree is resolved: what the whole of it answers. No condition. -/
import Derived.Test.YtceocfancfjdjaaResA
import Derived.Test.YtceocfancfjdjaaFnF
namespace Go.Proofs.Ytceocfancfjdjaa
open Go Go.RowKit
attribute [local irreducible] ACalls AOps AOp AWp AWpL AThen AInBlock bodyQ seq DOps

def resolveT (t : Tree) : (Int × List FnR) × Int × Int :=
  if checkT t = 0 then match letsL [] t.kids with
    | .error f => ((0, []), f.1, f.2)
    | .ok whole => match nodesR t.kids whole none [⟨0, 0, none⟩] with
      | .error f => ((0, []), f.1, f.2)
      | .ok (ks', fs') => (((whole.length : Int), setBody fs' 0 ks'), 0, 0)
  else ((0, []), 0, checkT t)

def unitCV (u : Int × List FnR) : CV := .agg [.int .i64 u.1, .islice (fcells u.2) u.2.length]

theorem FreezeG.nil {M : List AObj} : FreezeG M .nilslice (.islice [] 0) := by
  intro ρ w v _ hv
  cases hv
  exact .islice0 _ _

theorem fcells_pures (fs : List FnR) : pures (fcells fs) = true := by
  induction fs with
  | nil => rfl
  | cons f r ih =>
    obtain ⟨a, b, c⟩ := f
    cases c <;> simp only [fcells, FnR.cells, List.cons_append, List.nil_append, pures, pureC, ih, Bool.and_self]

theorem freeze_err {M : List AObj} {p e : Int} : FreezeG M (.tuple [.agg [.int .i64 0, .nilslice], .int .i64 p, .int .i64 e]) (.tuple [unitCV (0, []), .int .i64 p, .int .i64 e]) :=
  FreezeG.tuple ⟨FreezeG.agg ⟨FreezeG.pure rfl, FreezeG.nil, trivial⟩, FreezeG.pure rfl, FreezeG.pure rfl, trivial⟩

def resQ (t : Tree) (r : ARes) (M' : List AObj) : Prop := ∃ c, r = .ret c ∧ FreezeG M' c (.tuple [unitCV (resolveT t).1, .int .i64 (resolveT t).2.1, .int .i64 (resolveT t).2.2])

/-- The resolver gives up: what is answered. -/
theorem leave_err {t : Tree} {f : Int × Int} {fr : List (Nat × CV)} {M : List AObj} (hres : resolveT t = ((0, []), f.1, f.2)) (hfr : Sub fr [(2, .ptr (.g 0) 0 0), (3, .ptr (.g 1) 0 0), (4, .ptr (.g 2) 0 0)])
    (h0 : M[0]? = some (.box [.int .i64 0, .nilslice])) (h1 : M[1]? = some (.box [.int .i64 0])) (h2 : M[2]? = some (.box [.int .i64 0])) :
    bodyQD Try.f9 (resQ t) (.pan (faultV f)) { fr := fr, loc := [], M := M, ds := [.func 17 [.ptr (.g 0) 0 0, .ptr (.g 1) 0 0, .ptr (.g 2) 0 0]] } := by
  obtain ⟨f2, f3, f4, _⟩ := hfr
  refine ⟨rfl, .inr ⟨17, _, _, rfl, rfl, ⟨_, Try.func17, rfl, rfl⟩, recovYes_ok M f _ _ _ _ h0 h1 h2, ?_⟩⟩
  rintro M' ⟨g0, g1, g2⟩
  refine ⟨_, _, ARet.cells3 (c1 := .agg [.int .i64 0, .nilslice]) (c2 := .int .i64 f.1) (c3 := .int .i64 f.2) rfl ?_ ?_ ?_, Freeze.same rfl, _, rfl, ?_⟩
  · simp only [pstep, AS.ev, AS.tmp, f2, Option.getD_some, AS.get, g0]; rfl
  · simp only [pstep, AS.ev, AS.tmp, f3, Option.getD_some, AS.get, g1]; rfl
  · simp only [pstep, AS.ev, AS.tmp, f4, Option.getD_some, AS.get, g2]; rfl
  · rw [hres]; exact freeze_err

theorem leave_ok {t : Tree} {fr : List (Nat × CV)} {M : List AObj} {g : Int} {ver : Nat} {fs : List FnR} (hres : resolveT t = ((g, fs), 0, 0)) (hfr : Sub fr [(2, .ptr (.g 0) 0 0), (3, .ptr (.g 1) 0 0), (4, .ptr (.g 2) 0 0)])
    (h0 : M[0]? = some (.box [.int .i64 g, .mslice (.g 4) ver fs.length])) (h1 : M[1]? = some (.box [.int .i64 0])) (h2 : M[2]? = some (.box [.int .i64 0])) (h4 : M[4]? = some (.arr ver 41 3 (fcells fs))) :
    bodyQD Try.f9 (resQ t) .ret { fr := fr, loc := [], M := M, ds := [.func 17 [.ptr (.g 0) 0 0, .ptr (.g 1) 0 0, .ptr (.g 2) 0 0]] } := by
  obtain ⟨f2, f3, f4, _⟩ := hfr
  refine .inr ⟨17, _, _, rfl, rfl, ⟨_, Try.func17, rfl, rfl⟩, recovNo_ok M, ?_⟩
  rintro M' rfl
  refine ⟨_, _, ARet.cells3 (c1 := .agg [.int .i64 g, .mslice (.g 4) ver fs.length]) (c2 := .int .i64 0) (c3 := .int .i64 0) rfl ?_ ?_ ?_, Freeze.same rfl, _, rfl, ?_⟩
  · simp only [pstep, AS.ev, AS.tmp, f2, Option.getD_some, AS.get, h0]; rfl
  · simp only [pstep, AS.ev, AS.tmp, f3, Option.getD_some, AS.get, h1]; rfl
  · simp only [pstep, AS.ev, AS.tmp, f4, Option.getD_some, AS.get, h2]; rfl
  · rw [hres]
    exact FreezeG.tuple ⟨FreezeG.agg ⟨FreezeG.pure rfl, FreezeG.slice h4 (fcells_pures fs) (fcells_len fs) (by decide), trivial⟩, FreezeG.pure rfl, FreezeG.pure rfl, trivial⟩

set_option maxHeartbeats 4000000 in
theorem resolve_body (t : Tree) (hsm : t.small) (hro : t.roomy) : ACalls 9 [t.cv] [] (resQ t) := by
  have hcheck := check_ok t hsm
  obtain ⟨k, o, n, s, ns, ks, p⟩ := t
  have hlets := fun M hM => lets_ok 3 (Tree.mk k o n s ns ks p) [] M hM hsm.2.2.2.2 hsm.2.2.1
  simp only [Tree.kids] at hlets
  refine ACalls.of_bodyD Try.func9 rfl rfl rfl ?_
  simp only [Try.ntmps9, frOf]
  cases hc : (checkT (Tree.mk k o n s ns ks p) != 0) with
  | true =>
    have hne : checkT (Tree.mk k o n s ns ks p) ≠ 0 := by simpa using hc
    repeat' (first
        | (show DOps _ _ _ _ _ _ _ _ _ _ _; first
            | refine D.end ?_
            | refine D.val (.inl rfl) rfl rfl rfl ?_
            | refine D.leave rfl rfl rfl rfl ?_
            | refine D.val (Wants.take rfl rfl) rfl rfl rfl ?_
            | refine (D.cmpT rfl (.inl rfl) rfl rfl rfl (hc) ?_)
            | refine D.cmp rfl (.inl rfl) rfl rfl rfl (fun _ => ?_) (fun _ => ?_)
            | refine D.valO (.inl rfl) rfl rfl rfl rfl ?_
            | refine D.build (.inl rfl) rfl rfl rfl rfl rfl rfl rfl ?_
            | refine D.buildSlice (.inl rfl) rfl rfl rfl rfl rfl rfl rfl rfl rfl ?_
            | refine (D.cmpT rfl (Wants.take rfl rfl) rfl rfl rfl (hc) ?_)
            | refine D.cmp rfl (Wants.take rfl rfl) rfl rfl rfl (fun _ => ?_) (fun _ => ?_)
            | refine D.valO (Wants.take rfl rfl) rfl rfl rfl rfl ?_
            | refine D.build (Wants.take rfl rfl) rfl rfl rfl rfl rfl rfl rfl ?_
            | refine D.buildSlice (Wants.take rfl rfl) rfl rfl rfl rfl rfl rfl rfl rfl rfl ?_)
        | (show AOps _ _ _ _ _ _; first
            | refine AOps.nil ?_
            | refine AOps.plain rfl (W.pure rfl rfl rfl ?_)
            | refine AOps.plain rfl (W.callV rfl rfl rfl rfl rfl (hcheck _) rfl rfl rfl ?_)
            | refine AOps.plain rfl (W.allocG rfl rfl rfl rfl rfl ?_)
            | refine AOps.plain rfl (W.cmpT rfl rfl rfl rfl (hc) ?_)
            | refine AOps.plain rfl (W.storeG rfl rfl rfl rfl rfl rfl rfl rfl rfl rfl ?_)
            | refine AOps.plain rfl (W.cmp rfl rfl rfl rfl (fun _ => ?_) (fun _ => ?_))
            | refine W.leave rfl rfl rfl rfl ?_
            | refine AOps.take rfl rfl (W.pure rfl rfl rfl ?_)
            | refine AOps.take rfl rfl (W.callV rfl rfl rfl rfl rfl (hcheck _) rfl rfl rfl ?_)
            | refine AOps.take rfl rfl (W.allocG rfl rfl rfl rfl rfl ?_)
            | refine AOps.take rfl rfl (W.cmpT rfl rfl rfl rfl (hc) ?_)
            | refine AOps.take rfl rfl (W.storeG rfl rfl rfl rfl rfl rfl rfl rfl rfl rfl ?_)
            | refine AOps.take rfl rfl (W.cmp rfl rfl rfl rfl (fun _ => ?_) (fun _ => ?_))
            | refine AOps.plain rfl (W.boxI rfl rfl rfl rfl rfl rfl ?_)
            | refine AOps.plain rfl (W.build rfl rfl rfl rfl rfl rfl rfl ?_)
            | refine AOps.plain rfl (W.alloc rfl rfl rfl rfl rfl ?_)
            | refine AOps.plain rfl (W.storeL rfl rfl rfl rfl rfl rfl rfl rfl rfl ?_)
            | refine AOps.plain rfl (W.buildSlice rfl rfl rfl rfl rfl rfl rfl rfl rfl ?_))
        | (show AWp _ _ _ _ _; first
            | refine AWp.seq ?_
            | refine AWp.region ?_
            | refine AWp.condT rfl ?_
            | refine AWp.condF rfl ?_
            | refine AWp.skip ?_
            | refine AWp.block ?_
            | refine AWp.exit ?_
            | refine AWp.ret ?_
            | refine AWp.draw0 (by kernel_rfl) ?_)
        | refine AThen.normal ?_
        | refine AThen.exit ?_
        | refine AThen.ret ?_
        | refine AThen.pan ?_
        | refine AInBlock.pan ?_
        | refine AInBlock.normal ?_
        | refine AInBlock.ret ?_
        | refine AInBlock.same ?_
        | refine AInBlock.other rfl ?_)
    refine .inl ⟨rfl, rfl, _, _, ARet.cells3 rfl rfl rfl rfl, Freeze.same rfl, _, rfl, ?_⟩
    have : resolveT (Tree.mk k o n s ns ks p) = ((0, []), 0, checkT (Tree.mk k o n s ns ks p)) := by simp [resolveT, hne]
    rw [this]
    exact freeze_err
  | false =>
    have heq : checkT (Tree.mk k o n s ns ks p) = 0 := by simpa using hc
    cases hl : letsL [] ks with
    | error f =>
      have hlc := hlets [.box [.int .i64 0, .nilslice], .box [.int .i64 0], .box [.int .i64 0], .map [], .arr 0 41 3 [.int .i64 0, .int .i64 0, .nilslice], .box [.int .i64 0, .mslice (.g 4) 0 1, .map (.g 3), .nilmap]] rfl
      rw [hl] at hlc
      have hlc1 := ACalls.mono (QQ' := fun r M' => r = .pan (faultV f) ∧ ∃ es' : Ents, M' = List.set [.box [.int .i64 0, .nilslice], .box [.int .i64 0], .box [.int .i64 0], .map [], .arr 0 41 3 [.int .i64 0, .int .i64 0, .nilslice], .box [.int .i64 0, .mslice (.g 4) 0 1, .map (.g 3), .nilmap]] 3 (.map es')) hlc (fun r M' h => h)
      clear hlc hlets
      repeat' (first
          | (show DOps _ _ _ _ _ _ _ _ _ _ _; first
              | refine D.end ?_
              | refine D.val (.inl rfl) rfl rfl rfl ?_
              | refine D.leave rfl rfl rfl rfl ?_
              | refine D.val (Wants.take rfl rfl) rfl rfl rfl ?_
              | refine (D.cmpF rfl (.inl rfl) rfl rfl rfl (hc) ?_)
              | refine (D.loadBox (.inl rfl) (by kernel_rfl) rfl rfl rfl rfl rfl rfl ?_)
              | refine D.cmp rfl (.inl rfl) rfl rfl rfl (fun _ => ?_) (fun _ => ?_)
              | refine D.valO (.inl rfl) rfl rfl rfl rfl ?_
              | refine D.build (.inl rfl) rfl rfl rfl rfl rfl rfl rfl ?_
              | refine D.buildSlice (.inl rfl) rfl rfl rfl rfl rfl rfl rfl rfl rfl ?_
              | refine (D.cmpF rfl (Wants.take rfl rfl) rfl rfl rfl (hc) ?_)
              | refine (D.loadBox (Wants.take rfl rfl) (by kernel_rfl) rfl rfl rfl rfl rfl rfl ?_)
              | refine D.cmp rfl (Wants.take rfl rfl) rfl rfl rfl (fun _ => ?_) (fun _ => ?_)
              | refine D.valO (Wants.take rfl rfl) rfl rfl rfl rfl ?_
              | refine D.build (Wants.take rfl rfl) rfl rfl rfl rfl rfl rfl rfl ?_
              | refine D.buildSlice (Wants.take rfl rfl) rfl rfl rfl rfl rfl rfl rfl rfl rfl ?_)
          | (show AOps _ _ _ _ _ _; first
              | refine AOps.nil ?_
              | refine AOps.plain rfl (W.pure rfl rfl rfl ?_)
              | refine AOps.plain rfl (W.callV rfl rfl rfl rfl rfl (hcheck _) rfl rfl rfl ?_)
              | refine AOps.plain rfl (W.allocG rfl rfl rfl rfl rfl ?_)
              | refine AOps.plain rfl (W.cmpF rfl rfl rfl rfl (hc) ?_)
              | refine AOps.plain rfl (W.defer rfl rfl rfl rfl rfl ?_)
              | refine AOps.plain rfl (W.makeMap rfl rfl rfl ?_)
              | refine AOps.plain rfl (W.makeFn rfl rfl rfl ?_)
              | refine AOps.plain rfl (W.boxG (t := 50) rfl rfl rfl rfl rfl rfl ?_)
              | refine AOps.plain rfl (W.callP rfl rfl rfl rfl rfl hlc1 rfl rfl (fun M' hM' => ?_))
              | refine AOps.plain rfl (W.cmp rfl rfl rfl rfl (fun _ => ?_) (fun _ => ?_))
              | refine W.leave rfl rfl rfl rfl ?_
              | refine AOps.take rfl rfl (W.pure rfl rfl rfl ?_)
              | refine AOps.take rfl rfl (W.callV rfl rfl rfl rfl rfl (hcheck _) rfl rfl rfl ?_)
              | refine AOps.take rfl rfl (W.allocG rfl rfl rfl rfl rfl ?_)
              | refine AOps.take rfl rfl (W.cmpF rfl rfl rfl rfl (hc) ?_)
              | refine AOps.take rfl rfl (W.defer rfl rfl rfl rfl rfl ?_)
              | refine AOps.take rfl rfl (W.makeMap rfl rfl rfl ?_)
              | refine AOps.take rfl rfl (W.makeFn rfl rfl rfl ?_)
              | refine AOps.take rfl rfl (W.boxG (t := 50) rfl rfl rfl rfl rfl rfl ?_)
              | refine AOps.take rfl rfl (W.callP rfl rfl rfl rfl rfl hlc1 rfl rfl (fun M' hM' => ?_))
              | refine AOps.take rfl rfl (W.cmp rfl rfl rfl rfl (fun _ => ?_) (fun _ => ?_))
              | refine AOps.plain rfl (W.boxI rfl rfl rfl rfl rfl rfl ?_)
              | refine AOps.plain rfl (W.build rfl rfl rfl rfl rfl rfl rfl ?_)
              | refine AOps.plain rfl (W.alloc rfl rfl rfl rfl rfl ?_)
              | refine AOps.plain rfl (W.storeL rfl rfl rfl rfl rfl rfl rfl rfl rfl ?_)
              | refine AOps.plain rfl (W.buildSlice rfl rfl rfl rfl rfl rfl rfl rfl rfl ?_))
          | (show AWp _ _ _ _ _; first
              | refine AWp.draw [] 6 rfl (by kernel_rfl) (by kernel_rfl) rfl ?_
              | refine AWp.seq ?_
              | refine AWp.region ?_
              | refine AWp.condT rfl ?_
              | refine AWp.condF rfl ?_
              | refine AWp.skip ?_
              | refine AWp.block ?_
              | refine AWp.exit ?_
              | refine AWp.ret ?_
              | refine AWp.draw0 (by kernel_rfl) ?_)
          | refine AThen.normal ?_
          | refine AThen.exit ?_
          | refine AThen.ret ?_
          | refine AThen.pan ?_
          | refine AInBlock.pan ?_
          | refine AInBlock.normal ?_
          | refine AInBlock.ret ?_
          | refine AInBlock.same ?_
          | refine AInBlock.other rfl ?_)
      obtain ⟨es', rfl⟩ := hM'
      exact leave_err (by simp only [resolveT, heq, if_true, Tree.kids, hl]) ⟨rfl, rfl, rfl, trivial⟩ rfl rfl rfl
    | ok whole =>
      have hlc := hlets [.box [.int .i64 0, .nilslice], .box [.int .i64 0], .box [.int .i64 0], .map [], .arr 0 41 3 [.int .i64 0, .int .i64 0, .nilslice], .box [.int .i64 0, .mslice (.g 4) 0 1, .map (.g 3), .nilmap]] rfl
      rw [hl] at hlc
      have hlc1 := ACalls.mono (QQ' := fun r M' => r = .ret (.tuple []) ∧ M' = [.box [.int .i64 0, .nilslice], .box [.int .i64 0], .box [.int .i64 0], .map whole, .arr 0 41 3 [.int .i64 0, .int .i64 0, .nilslice], .box [.int .i64 0, .mslice (.g 4) 0 1, .map (.g 3), .nilmap]]) hlc (fun r M' h => h)
      clear hlc hlets
      have hkids : ∀ t, t ∈ ks → NodeOk t := fun t ht => node_ok t (smalls_mem hsm.2.2.2.2 ht) (roomies_mem hro.2.2 ht)
      have hM2 : RSt [.box [.int .i64 0, .nilslice], .box [.int .i64 0], .box [.int .i64 0], .map whole, .arr 0 41 3 [.int .i64 0, .int .i64 0, .nilslice], .box [.int .i64 (whole.length : Int), .mslice (.g 4) 0 1, .map (.g 3), .nilmap]]
          (whole.length : Int) 0 [⟨0, 0, none⟩] whole none .nilmap := ⟨rfl, rfl, rfl, rfl⟩
      have hnodes := nodes_ok ks (whole.length : Int) whole none .nilmap hro.2.1 (fun t ht M ver fs => hkids t ht _ whole _ _ M ver fs)
          (fun t _ fs t' fs' hle h => (nodeR_len t _ _ _ _ _ hle h).2) _ 0 [⟨0, 0, none⟩] hM2 (by decide)
      cases hr : nodesR ks whole none [⟨0, 0, none⟩] with
      | error f =>
        rw [hr] at hnodes
        have hc1 := ACalls.mono (QQ' := fun r M' => r = .pan (faultV f) ∧ Keep0 _ M') hnodes (fun r M' h => h)
        clear hnodes
        repeat' (first
            | (show DOps _ _ _ _ _ _ _ _ _ _ _; first
                | refine D.end ?_
                | refine D.val (.inl rfl) rfl rfl rfl ?_
                | refine D.leave rfl rfl rfl rfl ?_
                | refine D.val (Wants.take rfl rfl) rfl rfl rfl ?_
                | refine (D.cmpF rfl (.inl rfl) rfl rfl rfl (hc) ?_)
                | refine (D.loadBox (.inl rfl) (by kernel_rfl) rfl rfl rfl rfl rfl rfl ?_)
                | refine D.cmp rfl (.inl rfl) rfl rfl rfl (fun _ => ?_) (fun _ => ?_)
                | refine D.valO (.inl rfl) rfl rfl rfl rfl ?_
                | refine D.build (.inl rfl) rfl rfl rfl rfl rfl rfl rfl ?_
                | refine D.buildSlice (.inl rfl) rfl rfl rfl rfl rfl rfl rfl rfl rfl ?_
                | refine (D.cmpF rfl (Wants.take rfl rfl) rfl rfl rfl (hc) ?_)
                | refine (D.loadBox (Wants.take rfl rfl) (by kernel_rfl) rfl rfl rfl rfl rfl rfl ?_)
                | refine D.cmp rfl (Wants.take rfl rfl) rfl rfl rfl (fun _ => ?_) (fun _ => ?_)
                | refine D.valO (Wants.take rfl rfl) rfl rfl rfl rfl ?_
                | refine D.build (Wants.take rfl rfl) rfl rfl rfl rfl rfl rfl rfl ?_
                | refine D.buildSlice (Wants.take rfl rfl) rfl rfl rfl rfl rfl rfl rfl rfl rfl ?_)
            | (show AOps _ _ _ _ _ _; first
                | refine AOps.nil ?_
                | refine AOps.plain rfl (W.pure rfl rfl rfl ?_)
                | refine AOps.plain rfl (W.callV rfl rfl rfl rfl rfl (hcheck _) rfl rfl rfl ?_)
                | refine AOps.plain rfl (W.allocG rfl rfl rfl rfl rfl ?_)
                | refine AOps.plain rfl (W.cmpF rfl rfl rfl rfl (hc) ?_)
                | refine AOps.plain rfl (W.defer rfl rfl rfl rfl rfl ?_)
                | refine AOps.plain rfl (W.makeMap rfl rfl rfl ?_)
                | refine AOps.plain rfl (W.makeFn rfl rfl rfl ?_)
                | refine AOps.plain rfl (W.boxG (t := 50) rfl rfl rfl rfl rfl rfl ?_)
                | refine AOps.plain rfl (W.callR rfl rfl rfl rfl rfl hlc1 rfl rfl rfl ?_)
                | refine AOps.plain rfl (W.lenMap rfl rfl rfl rfl rfl ?_)
                | refine AOps.plain rfl (W.storeG rfl rfl rfl rfl rfl rfl rfl rfl rfl rfl ?_)
                | refine AOps.plain rfl (W.callP rfl rfl rfl rfl rfl hc1 rfl rfl (fun M' hM' => ?_))
                | refine AOps.plain rfl (W.cmp rfl rfl rfl rfl (fun _ => ?_) (fun _ => ?_))
                | refine W.leave rfl rfl rfl rfl ?_
                | refine AOps.take rfl rfl (W.pure rfl rfl rfl ?_)
                | refine AOps.take rfl rfl (W.callV rfl rfl rfl rfl rfl (hcheck _) rfl rfl rfl ?_)
                | refine AOps.take rfl rfl (W.allocG rfl rfl rfl rfl rfl ?_)
                | refine AOps.take rfl rfl (W.cmpF rfl rfl rfl rfl (hc) ?_)
                | refine AOps.take rfl rfl (W.defer rfl rfl rfl rfl rfl ?_)
                | refine AOps.take rfl rfl (W.makeMap rfl rfl rfl ?_)
                | refine AOps.take rfl rfl (W.makeFn rfl rfl rfl ?_)
                | refine AOps.take rfl rfl (W.boxG (t := 50) rfl rfl rfl rfl rfl rfl ?_)
                | refine AOps.take rfl rfl (W.callR rfl rfl rfl rfl rfl hlc1 rfl rfl rfl ?_)
                | refine AOps.take rfl rfl (W.lenMap rfl rfl rfl rfl rfl ?_)
                | refine AOps.take rfl rfl (W.storeG rfl rfl rfl rfl rfl rfl rfl rfl rfl rfl ?_)
                | refine AOps.take rfl rfl (W.callP rfl rfl rfl rfl rfl hc1 rfl rfl (fun M' hM' => ?_))
                | refine AOps.take rfl rfl (W.cmp rfl rfl rfl rfl (fun _ => ?_) (fun _ => ?_))
                | refine AOps.plain rfl (W.boxI rfl rfl rfl rfl rfl rfl ?_)
                | refine AOps.plain rfl (W.build rfl rfl rfl rfl rfl rfl rfl ?_)
                | refine AOps.plain rfl (W.alloc rfl rfl rfl rfl rfl ?_)
                | refine AOps.plain rfl (W.storeL rfl rfl rfl rfl rfl rfl rfl rfl rfl ?_)
                | refine AOps.plain rfl (W.buildSlice rfl rfl rfl rfl rfl rfl rfl rfl rfl ?_))
            | (show AWp _ _ _ _ _; first
                | refine AWp.draw [] 6 rfl (by kernel_rfl) (by kernel_rfl) rfl ?_
                | refine AWp.seq ?_
                | refine AWp.region ?_
                | refine AWp.condT rfl ?_
                | refine AWp.condF rfl ?_
                | refine AWp.skip ?_
                | refine AWp.block ?_
                | refine AWp.exit ?_
                | refine AWp.ret ?_
                | refine AWp.draw0 (by kernel_rfl) ?_)
            | refine AThen.normal ?_
            | refine AThen.exit ?_
            | refine AThen.ret ?_
            | refine AThen.pan ?_
            | refine AInBlock.pan ?_
            | refine AInBlock.normal ?_
            | refine AInBlock.ret ?_
            | refine AInBlock.same ?_
            | refine AInBlock.other rfl ?_)
        exact leave_err (by simp only [resolveT, heq, if_true, Tree.kids, hl, hr]) ⟨rfl, rfl, rfl, trivial⟩ (hM' 0 (by decide) (by simp)) (hM' 1 (by decide) (by simp)) (hM' 2 (by decide) (by simp))
      | ok q =>
        obtain ⟨ks', fs'⟩ := q
        rw [hr] at hnodes
        have hc1 := ACalls.mono (QQ' := fun r M' => r = .ret (.islice (rows ks') ks'.length) ∧ ∃ ver', RSt M' (whole.length : Int) ver' fs' whole none .nilmap ∧ Keep _ M') hnodes (fun r M' h => h)
        clear hnodes
        have hlen2 := nodesR_len ks whole none [⟨0, 0, none⟩] ks' fs' (by decide) hr
        have hlt2 : 0 < fs'.length := by simp at hlen2; omega
        have hset := setK_fcells ks' fs' 0 hlt2
        repeat' (first
            | (show DOps _ _ _ _ _ _ _ _ _ _ _; first
                | refine D.end ?_
                | refine D.val (.inl rfl) rfl rfl rfl ?_
                | refine D.leave rfl rfl rfl rfl ?_
                | refine D.val (Wants.take rfl rfl) rfl rfl rfl ?_
                | refine (D.cmpF rfl (.inl rfl) rfl rfl rfl (hc) ?_)
                | refine (D.loadBox (.inl rfl) (by kernel_rfl) rfl rfl rfl rfl rfl rfl ?_)
                | refine D.cmp rfl (.inl rfl) rfl rfl rfl (fun _ => ?_) (fun _ => ?_)
                | refine D.valO (.inl rfl) rfl rfl rfl rfl ?_
                | refine D.build (.inl rfl) rfl rfl rfl rfl rfl rfl rfl ?_
                | refine D.buildSlice (.inl rfl) rfl rfl rfl rfl rfl rfl rfl rfl rfl ?_
                | refine (D.cmpF rfl (Wants.take rfl rfl) rfl rfl rfl (hc) ?_)
                | refine (D.loadBox (Wants.take rfl rfl) (by kernel_rfl) rfl rfl rfl rfl rfl rfl ?_)
                | refine D.cmp rfl (Wants.take rfl rfl) rfl rfl rfl (fun _ => ?_) (fun _ => ?_)
                | refine D.valO (Wants.take rfl rfl) rfl rfl rfl rfl ?_
                | refine D.build (Wants.take rfl rfl) rfl rfl rfl rfl rfl rfl rfl ?_
                | refine D.buildSlice (Wants.take rfl rfl) rfl rfl rfl rfl rfl rfl rfl rfl rfl ?_)
            | (show AOps _ _ _ _ _ _; first
                | refine AOps.nil ?_
                | refine AOps.plain rfl (W.pure rfl rfl rfl ?_)
                | refine AOps.plain rfl (W.callV rfl rfl rfl rfl rfl (hcheck _) rfl rfl rfl ?_)
                | refine AOps.plain rfl (W.allocG rfl rfl rfl rfl rfl ?_)
                | refine AOps.plain rfl (W.cmpF rfl rfl rfl rfl (hc) ?_)
                | refine AOps.plain rfl (W.defer rfl rfl rfl rfl rfl ?_)
                | refine AOps.plain rfl (W.makeMap rfl rfl rfl ?_)
                | refine AOps.plain rfl (W.makeFn rfl rfl rfl ?_)
                | refine AOps.plain rfl (W.boxG (t := 50) rfl rfl rfl rfl rfl rfl ?_)
                | refine AOps.plain rfl (W.callR rfl rfl rfl rfl rfl hlc1 rfl rfl rfl ?_)
                | refine AOps.plain rfl (W.lenMap rfl rfl rfl rfl rfl ?_)
                | refine AOps.plain rfl (W.storeG rfl rfl rfl rfl rfl rfl rfl rfl rfl rfl ?_)
                | refine AOps.plain rfl (W.callM rfl rfl rfl rfl rfl hc1 rfl rfl rfl (fun M5 hM5 => ?_))
                | refine AOps.plain rfl (W.cmp rfl rfl rfl rfl (fun _ => ?_) (fun _ => ?_))
                | refine W.leave rfl rfl rfl rfl ?_
                | refine AOps.take rfl rfl (W.pure rfl rfl rfl ?_)
                | refine AOps.take rfl rfl (W.callV rfl rfl rfl rfl rfl (hcheck _) rfl rfl rfl ?_)
                | refine AOps.take rfl rfl (W.allocG rfl rfl rfl rfl rfl ?_)
                | refine AOps.take rfl rfl (W.cmpF rfl rfl rfl rfl (hc) ?_)
                | refine AOps.take rfl rfl (W.defer rfl rfl rfl rfl rfl ?_)
                | refine AOps.take rfl rfl (W.makeMap rfl rfl rfl ?_)
                | refine AOps.take rfl rfl (W.makeFn rfl rfl rfl ?_)
                | refine AOps.take rfl rfl (W.boxG (t := 50) rfl rfl rfl rfl rfl rfl ?_)
                | refine AOps.take rfl rfl (W.callR rfl rfl rfl rfl rfl hlc1 rfl rfl rfl ?_)
                | refine AOps.take rfl rfl (W.lenMap rfl rfl rfl rfl rfl ?_)
                | refine AOps.take rfl rfl (W.storeG rfl rfl rfl rfl rfl rfl rfl rfl rfl rfl ?_)
                | refine AOps.take rfl rfl (W.callM rfl rfl rfl rfl rfl hc1 rfl rfl rfl (fun M5 hM5 => ?_))
                | refine AOps.take rfl rfl (W.cmp rfl rfl rfl rfl (fun _ => ?_) (fun _ => ?_))
                | refine AOps.plain rfl (W.boxI rfl rfl rfl rfl rfl rfl ?_)
                | refine AOps.plain rfl (W.build rfl rfl rfl rfl rfl rfl rfl ?_)
                | refine AOps.plain rfl (W.alloc rfl rfl rfl rfl rfl ?_)
                | refine AOps.plain rfl (W.storeL rfl rfl rfl rfl rfl rfl rfl rfl rfl ?_)
                | refine AOps.plain rfl (W.buildSlice rfl rfl rfl rfl rfl rfl rfl rfl rfl ?_))
            | (show AWp _ _ _ _ _; first
                | refine AWp.draw [] 6 rfl (by kernel_rfl) (by kernel_rfl) rfl ?_
                | refine AWp.seq ?_
                | refine AWp.region ?_
                | refine AWp.condT rfl ?_
                | refine AWp.condF rfl ?_
                | refine AWp.skip ?_
                | refine AWp.block ?_
                | refine AWp.exit ?_
                | refine AWp.ret ?_
                | refine AWp.draw0 (by kernel_rfl) ?_)
            | refine AThen.normal ?_
            | refine AThen.exit ?_
            | refine AThen.ret ?_
            | refine AThen.pan ?_
            | refine AInBlock.pan ?_
            | refine AInBlock.normal ?_
            | refine AInBlock.ret ?_
            | refine AInBlock.same ?_
            | refine AInBlock.other rfl ?_)
        obtain ⟨ver', hR5, hK5⟩ := hM5
        obtain ⟨p0, p1, p2, po⟩ := hR5
        have k0 := hK5.2 0 (.inl (by decide)) (by simp)
        have k1 := hK5.2 1 (.inl (by decide)) (by simp)
        have k2 := hK5.2 2 (.inl (by decide)) (by simp)
        simp only [List.getElem?_cons_zero, List.getElem?_cons_succ] at k0 k1 k2
        clear hc1 hlc1
        have q2 : (M5.set 4 (.arr ver' 41 3 (fcells (setBody fs' 0 ks'))))[5]? = some (.box [.int .i64 (whole.length : Int), .mslice (.g 4) ver' fs'.length, .map (.g 3), .nilmap]) := by
          rw [List.getElem?_set_ne (by decide)]; exact p2
        have r0 : (M5.set 4 (.arr ver' 41 3 (fcells (setBody fs' 0 ks'))))[0]? = some (.box [.int .i64 0, .nilslice]) := by
          rw [List.getElem?_set_ne (by decide)]; exact k0
        have r1 : ((M5.set 4 (.arr ver' 41 3 (fcells (setBody fs' 0 ks')))).set 0 (.box [.int .i64 (whole.length : Int), .mslice (.g 4) ver' fs'.length]))[1]? = some (.box [.int .i64 0]) := by
          rw [List.getElem?_set_ne (by decide), List.getElem?_set_ne (by decide)]; exact k1
        have r2 : (((M5.set 4 (.arr ver' 41 3 (fcells (setBody fs' 0 ks')))).set 0 (.box [.int .i64 (whole.length : Int), .mslice (.g 4) ver' fs'.length])).set 1 (.box [.int .i64 0]))[2]? = some (.box [.int .i64 0]) := by
          rw [List.getElem?_set_ne (by decide), List.getElem?_set_ne (by decide), List.getElem?_set_ne (by decide)]; exact k2
        repeat' (first
            | (show DOps _ _ _ _ _ _ _ _ _ _ _; first
                | refine D.end ?_
                | refine D.val (.inl rfl) rfl rfl rfl ?_
                | refine D.leave rfl rfl rfl rfl ?_
                | refine D.val (Wants.take rfl rfl) rfl rfl rfl ?_
                | refine D.cmp rfl (.inl rfl) rfl rfl rfl (fun _ => ?_) (fun _ => ?_)
                | refine D.valO (.inl rfl) rfl rfl rfl rfl ?_
                | refine D.build (.inl rfl) rfl rfl rfl rfl rfl rfl rfl ?_
                | refine D.buildSlice (.inl rfl) rfl rfl rfl rfl rfl rfl rfl rfl rfl ?_
                | refine D.cmp rfl (Wants.take rfl rfl) rfl rfl rfl (fun _ => ?_) (fun _ => ?_)
                | refine D.valO (Wants.take rfl rfl) rfl rfl rfl rfl ?_
                | refine D.build (Wants.take rfl rfl) rfl rfl rfl rfl rfl rfl rfl ?_
                | refine D.buildSlice (Wants.take rfl rfl) rfl rfl rfl rfl rfl rfl rfl rfl rfl ?_)
            | (show AOps _ _ _ _ _ _; first
                | refine AOps.nil ?_
                | refine AOps.plain rfl (W.pure rfl rfl rfl ?_)
                | refine AOps.plain rfl (W.loadBox rfl rfl p2 rfl rfl rfl ?_)
                | refine AOps.plain rfl (W.indexM rfl rfl rfl rfl rfl rfl (by decide) (by omega) ?_)
                | refine AOps.plain rfl (W.storeGA rfl rfl rfl p1 rfl rfl rfl rfl hset (fcells_noL _) ?_)
                | refine AOps.plain rfl (W.loadBox rfl rfl q2 rfl rfl rfl ?_)
                | refine AOps.plain rfl (W.storeG rfl rfl rfl r0 rfl rfl rfl rfl rfl rfl ?_)
                | refine AOps.plain rfl (W.storeG rfl rfl rfl r1 rfl rfl rfl rfl rfl rfl ?_)
                | refine AOps.plain rfl (W.storeG rfl rfl rfl r2 rfl rfl rfl rfl rfl rfl ?_)
                | refine AOps.plain rfl (W.cmp rfl rfl rfl rfl (fun _ => ?_) (fun _ => ?_))
                | refine W.leave rfl rfl rfl rfl ?_
                | refine AOps.take rfl rfl (W.pure rfl rfl rfl ?_)
                | refine AOps.take rfl rfl (W.loadBox rfl rfl p2 rfl rfl rfl ?_)
                | refine AOps.take rfl rfl (W.indexM rfl rfl rfl rfl rfl rfl (by decide) (by omega) ?_)
                | refine AOps.take rfl rfl (W.storeGA rfl rfl rfl p1 rfl rfl rfl rfl hset (fcells_noL _) ?_)
                | refine AOps.take rfl rfl (W.loadBox rfl rfl q2 rfl rfl rfl ?_)
                | refine AOps.take rfl rfl (W.storeG rfl rfl rfl r0 rfl rfl rfl rfl rfl rfl ?_)
                | refine AOps.take rfl rfl (W.storeG rfl rfl rfl r1 rfl rfl rfl rfl rfl rfl ?_)
                | refine AOps.take rfl rfl (W.storeG rfl rfl rfl r2 rfl rfl rfl rfl rfl rfl ?_)
                | refine AOps.take rfl rfl (W.cmp rfl rfl rfl rfl (fun _ => ?_) (fun _ => ?_))
                | refine AOps.plain rfl (W.boxI rfl rfl rfl rfl rfl rfl ?_)
                | refine AOps.plain rfl (W.build rfl rfl rfl rfl rfl rfl rfl ?_)
                | refine AOps.plain rfl (W.alloc rfl rfl rfl rfl rfl ?_)
                | refine AOps.plain rfl (W.storeL rfl rfl rfl rfl rfl rfl rfl rfl rfl ?_)
                | refine AOps.plain rfl (W.buildSlice rfl rfl rfl rfl rfl rfl rfl rfl rfl ?_))
            | (show AWp _ _ _ _ _; first
                | refine AWp.seq ?_
                | refine AWp.region ?_
                | refine AWp.condT rfl ?_
                | refine AWp.condF rfl ?_
                | refine AWp.skip ?_
                | refine AWp.block ?_
                | refine AWp.exit ?_
                | refine AWp.ret ?_
                | refine AWp.draw0 (by kernel_rfl) ?_)
            | refine AThen.normal ?_
            | refine AThen.exit ?_
            | refine AThen.ret ?_
            | refine AThen.pan ?_
            | refine AInBlock.pan ?_
            | refine AInBlock.normal ?_
            | refine AInBlock.ret ?_
            | refine AInBlock.same ?_
            | refine AInBlock.other rfl ?_)
        refine leave_ok (g := (whole.length : Int)) (ver := ver') (fs := setBody fs' 0 ks') (by simp only [resolveT, heq, if_true, Tree.kids, hl, hr]) ⟨rfl, rfl, rfl, trivial⟩ ?_ ?_ ?_ ?_
        · rw [setBody_len, List.getElem?_set_ne (by decide), List.getElem?_set_ne (by decide)]; exact set_at r0
        · rw [List.getElem?_set_ne (by decide)]; exact set_at r1
        · exact set_at r2
        · rw [List.getElem?_set_ne (by decide), List.getElem?_set_ne (by decide), List.getElem?_set_ne (by decide)]; exact set_at p1

/-- What Resolve answers. -/
theorem resolve_ok (t : Tree) (hsm : t.small) (hro : t.roomy) : ACalls 9 [t.cv] [] (fun r M' => r = .ret (.tuple [unitCV (resolveT t).1, .int .i64 (resolveT t).2.1, .int .i64 (resolveT t).2.2]) ∧ M' = []) :=
  ACalls.forget (resolve_body t hsm hro) fun r M' ⟨c, h1, h2⟩ => ⟨c, _, h1, h2, rfl, rfl⟩

end Go.Proofs.Ytceocfancfjdjaa
