/- (D) The one call that each law tries: it answers as it should. No condition. -/
import Derived.Test.YtceocfancfjdjaaNorm
namespace Go.Proofs.Ytceocfancfjdjaa
open Go Go.RowKit
attribute [local irreducible] ACalls AOps AOp AWp AWpL AThen AInBlock bodyQ seq DOps

theorem cons_ne {c : CV} {r : List CV} : c :: r ≠ [] := by simp

def wNode (k o : Int) (s : ByteArray) (ns ks : CV) : List CV := [.int .i64 k, .int .i64 o, .int .i64 0, .str s, ns, ks, .int .i64 0]
def wB : List CV := wNode 5 0 ⟨#[98]⟩ .nilslice .nilslice
def wA : List CV := wNode 5 0 ⟨#[97]⟩ .nilslice .nilslice
def w12 : List CV := [.int .i64 5, .int .i64 0, .int .i64 0, .str ⟨#[97]⟩, .nilslice, .nilslice, .int .i64 0, .int .i64 5, .int .i64 0, .int .i64 0, .str ⟨#[98]⟩, .nilslice, .nilslice, .int .i64 0]
def w13 : List CV := wNode 10 1 nothing .nilslice (.islice w12 2)
def w15 : List CV := wNode 31 0 nothing .nilslice (.islice w13 1)
def w17 : List CV := wNode 8 0 nothing (.islice [.str ⟨#[98]⟩] 1) (.islice w15 1)
def w21 : List CV := wNode 21 0 ⟨#[97]⟩ .nilslice (.islice w17 1)
def w23 : List CV := wNode 29 0 nothing .nilslice (.islice w21 1)

theorem w23_norm : norms [.agg w23] = [workT.cv] := rfl

set_option maxHeartbeats 16000000 in
theorem works_ok : ACalls 6 [] [] (fun r M' => r = .ret (.bool true) ∧ M' = []) := by
  have hres := resolve_ok workT workT_small workT_roomy
  rw [workT_resolve] at hres
  simp only at hres
  have hcall := ACalls.norm hres w23_norm
  clear hres
  refine ACalls.of_body Try.func6 rfl rfl rfl ?_
  simp only [Try.ntmps6, frOf]
  refine AWp.seq (AWp.region ?_)
  refine AOps.plain rfl (W.pure rfl rfl rfl ?_)
  refine AOps.nil (AThen.normal ?_)
  refine AWp.seq (AWp.region ?_)
  refine AOps.plain rfl (W.build (cs' := wB) rfl rfl rfl rfl rfl rfl rfl ?_)
  refine AOps.plain rfl (W.alloc rfl rfl rfl rfl rfl ?_)
  refine AOps.plain rfl (W.storeL (cs' := wB) rfl rfl rfl rfl rfl rfl rfl rfl rfl ?_)
  refine AOps.nil (AThen.normal ?_)
  refine AWp.tidy (fr' := [(1, .ptr (.l 1) 0 0)]) (loc' := [(1, .box wB)]) ⟨rfl, trivial⟩ rfl ?_
  refine AWp.seq (AWp.region ?_)
  refine AOps.plain rfl (W.build (cs' := wA) rfl rfl rfl rfl rfl rfl rfl ?_)
  refine AOps.plain rfl (W.alloc rfl rfl rfl rfl rfl ?_)
  refine AOps.plain rfl (W.storeL (cs' := wA) rfl rfl rfl rfl rfl rfl rfl rfl rfl ?_)
  refine AOps.nil (AThen.normal ?_)
  refine AWp.tidy (fr' := [(1, .ptr (.l 1) 0 0), (2, .ptr (.l 2) 0 0)]) (loc' := [(2, .box wA), (1, .box wB)]) ⟨rfl, rfl, trivial⟩ rfl ?_
  refine AWp.seq (AWp.region ?_)
  refine AOps.plain rfl (W.buildSlice (cs' := [.str ⟨#[98]⟩]) rfl rfl rfl rfl rfl rfl rfl rfl rfl ?_)
  refine AOps.plain rfl (W.pure (c := .agg wA) rfl rfl rfl ?_)
  refine AOps.plain rfl (W.pure (c := .agg wB) rfl rfl rfl ?_)
  refine AOps.plain rfl (W.buildSlice (cs' := w12) rfl rfl rfl rfl rfl rfl rfl rfl rfl ?_)
  refine AOps.plain rfl (W.build (cs' := w13) rfl rfl rfl rfl rfl rfl rfl ?_)
  refine AOps.plain rfl (W.buildSlice (cs' := w13) rfl rfl rfl rfl rfl rfl rfl rfl rfl ?_)
  refine AOps.plain rfl (W.build (cs' := w15) rfl rfl rfl rfl rfl rfl rfl ?_)
  refine AOps.plain rfl (W.buildSlice (cs' := w15) rfl rfl rfl rfl rfl rfl rfl rfl rfl ?_)
  refine AOps.plain rfl (W.build (cs' := w17) rfl rfl rfl rfl rfl rfl rfl ?_)
  refine AOps.plain rfl (W.alloc rfl rfl rfl rfl rfl ?_)
  refine AOps.plain rfl (W.storeL (cs' := w17) rfl rfl rfl rfl rfl rfl rfl rfl rfl ?_)
  refine AOps.nil (AThen.normal ?_)
  refine AWp.tidy (fr' := [(3, .ptr (.l 3) 0 0)]) (loc' := [(3, .box w17), (2, .box wA), (1, .box wB)]) ⟨rfl, trivial⟩ rfl ?_
  refine AWp.freezeBox (t0 := 3) (d := 3) (cs := w17) (fr' := []) ⟨rfl, trivial⟩ rfl rfl rfl ?_
  refine AWp.seq (AWp.region ?_)
  refine AOps.plain rfl (W.pure (c := .agg w17) rfl rfl rfl ?_)
  refine AOps.plain rfl (W.buildSlice (cs' := w17) rfl rfl rfl rfl rfl rfl rfl rfl rfl ?_)
  refine AOps.plain rfl (W.build (cs' := w21) rfl rfl rfl rfl rfl rfl rfl ?_)
  refine AOps.plain rfl (W.buildSlice (cs' := w21) rfl rfl rfl rfl rfl rfl rfl rfl rfl ?_)
  refine AOps.plain rfl (W.build (cs' := w23) rfl rfl rfl rfl rfl rfl rfl ?_)
  refine AOps.plain rfl (W.callV rfl rfl rfl rfl rfl hcall rfl rfl rfl ?_)
  clear hcall
  refine AOps.plain rfl (W.pure rfl rfl rfl ?_)
  refine AOps.plain rfl (W.pure (c := unitCV (1, workFs)) rfl rfl rfl ?_)
  refine AOps.plain rfl (W.pure rfl rfl rfl ?_)
  refine AOps.plain rfl (W.pure rfl rfl rfl ?_)
  refine AOps.plain rfl (W.alloc rfl rfl rfl rfl rfl ?_)
  refine AOps.plain rfl (W.storeL (cs' := [.int .i64 1, .islice (fcells workFs) 2]) rfl rfl rfl rfl rfl rfl rfl rfl rfl ?_)
  refine AOps.plain rfl (W.pure rfl rfl rfl ?_)
  refine AOps.plain rfl (W.pure rfl rfl rfl ?_)
  refine AOps.nil (AThen.normal ?_)
  refine AWp.freezeBox (t0 := 4) (d := 4) (cs := [.int .i64 1, .islice [.int .i64 0, .int .i64 0, .islice (rows [.mk 34 0 0 nothing [] [nameN 20 1] 0]) 1, .int .i64 1, .int .i64 1, .islice (rows [.mk 31 0 0 nothing [] [.mk 10 1 0 nothing [] [nameN 19 0, nameN 18 0] 0] 0]) 1] 2]) (fr' := [(6, .int .i64 0)]) ⟨rfl, rfl, trivial⟩ rfl rfl rfl ?_
  obtain ⟨r1, e1⟩ : ∃ r, r = rows [.mk 34 0 0 nothing [] [nameN 20 1] 0] := ⟨_, rfl⟩
  obtain ⟨r2, e2⟩ : ∃ r, r = rows [.mk 31 0 0 nothing [] [.mk 10 1 0 nothing [] [nameN 19 0, nameN 18 0] 0] 0] := ⟨_, rfl⟩
  obtain ⟨r3, e3⟩ : ∃ r, r = rows [.mk 10 1 0 nothing [] [nameN 19 0, nameN 18 0] 0] := ⟨_, rfl⟩
  obtain ⟨r4, e4⟩ : ∃ r, r = rows [nameN 19 0, nameN 18 0] := ⟨_, rfl⟩
  have h2 : ld 23 r2 5 = some (.islice r3 1) := by rw [e2, e3]; rfl
  have h3 : ld 23 r3 5 = some (.islice r4 2) := by rw [e3, e4]; rfl
  have h4 : ld 3 r4 0 = some (.int .i64 19) := by rw [e4]; rfl
  have n2 : r2 ≠ [] := by rw [e2]; exact cons_ne
  have n3 : r3 ≠ [] := by rw [e3]; exact cons_ne
  have n4 : r4 ≠ [] := by rw [e4]; exact cons_ne
  rw [← e1, ← e2]
  clear e1 e2 e3 e4
  refine AWp.seq (AWp.regionV ?_)
  intro ops hops
  have g2 : (ops[2]?).bind Oper.dst = some 30 := (hops 2).trans rfl
  have g7 : (ops[7]?).bind Oper.dst = some 35 := (hops 7).trans rfl
  have g13 : (ops[13]?).bind Oper.dst = some 41 := (hops 13).trans rfl
  have g21 : (ops[21]?).bind Oper.dst = some 49 := (hops 21).trans rfl
  have g30 : (ops[30]?).bind Oper.dst = some 58 := (hops 30).trans rfl
  have g42 : (ops[42]?).bind Oper.dst = some 70 := (hops 42).trans rfl
  have g57 : (ops[57]?).bind Oper.dst = some 85 := (hops 57).trans rfl
  clear hops
  repeat' (first
    | refine AOps.plain rfl (W.pure rfl rfl rfl ?_)
    | refine AOps.plain rfl (W.cmpT rfl rfl rfl rfl rfl ?_)
    | refine AOps.takeV rfl g2 rfl (W.pure rfl rfl rfl ?_)
    | refine AOps.takeV rfl g2 rfl (W.cmpT rfl rfl rfl rfl rfl ?_)
    | refine AOps.takeV rfl g2 rfl (W.indexAddr rfl rfl rfl rfl rfl rfl (by decide) (by decide) cons_ne ?_)
    | refine AOps.takeV rfl g2 rfl (W.indexAddr rfl rfl rfl rfl rfl rfl (by decide) (by decide) n2 ?_)
    | refine AOps.takeV rfl g2 rfl (W.indexAddr rfl rfl rfl rfl rfl rfl (by decide) (by decide) n3 ?_)
    | refine AOps.takeV rfl g2 rfl (W.indexAddr rfl rfl rfl rfl rfl rfl (by decide) (by decide) n4 ?_)
    | refine AOps.takeV rfl g2 rfl (W.loadRow rfl rfl rfl rfl h2 ?_)
    | refine AOps.takeV rfl g2 rfl (W.loadRow rfl rfl rfl rfl h3 ?_)
    | refine AOps.takeV rfl g2 rfl (W.loadRow rfl rfl rfl rfl h4 ?_)
    | refine AOps.takeV rfl g7 rfl (W.pure rfl rfl rfl ?_)
    | refine AOps.takeV rfl g7 rfl (W.cmpT rfl rfl rfl rfl rfl ?_)
    | refine AOps.takeV rfl g7 rfl (W.indexAddr rfl rfl rfl rfl rfl rfl (by decide) (by decide) cons_ne ?_)
    | refine AOps.takeV rfl g7 rfl (W.indexAddr rfl rfl rfl rfl rfl rfl (by decide) (by decide) n2 ?_)
    | refine AOps.takeV rfl g7 rfl (W.indexAddr rfl rfl rfl rfl rfl rfl (by decide) (by decide) n3 ?_)
    | refine AOps.takeV rfl g7 rfl (W.indexAddr rfl rfl rfl rfl rfl rfl (by decide) (by decide) n4 ?_)
    | refine AOps.takeV rfl g7 rfl (W.loadRow rfl rfl rfl rfl h2 ?_)
    | refine AOps.takeV rfl g7 rfl (W.loadRow rfl rfl rfl rfl h3 ?_)
    | refine AOps.takeV rfl g7 rfl (W.loadRow rfl rfl rfl rfl h4 ?_)
    | refine AOps.takeV rfl g13 rfl (W.pure rfl rfl rfl ?_)
    | refine AOps.takeV rfl g13 rfl (W.cmpT rfl rfl rfl rfl rfl ?_)
    | refine AOps.takeV rfl g13 rfl (W.indexAddr rfl rfl rfl rfl rfl rfl (by decide) (by decide) cons_ne ?_)
    | refine AOps.takeV rfl g13 rfl (W.indexAddr rfl rfl rfl rfl rfl rfl (by decide) (by decide) n2 ?_)
    | refine AOps.takeV rfl g13 rfl (W.indexAddr rfl rfl rfl rfl rfl rfl (by decide) (by decide) n3 ?_)
    | refine AOps.takeV rfl g13 rfl (W.indexAddr rfl rfl rfl rfl rfl rfl (by decide) (by decide) n4 ?_)
    | refine AOps.takeV rfl g13 rfl (W.loadRow rfl rfl rfl rfl h2 ?_)
    | refine AOps.takeV rfl g13 rfl (W.loadRow rfl rfl rfl rfl h3 ?_)
    | refine AOps.takeV rfl g13 rfl (W.loadRow rfl rfl rfl rfl h4 ?_)
    | refine AOps.takeV rfl g21 rfl (W.pure rfl rfl rfl ?_)
    | refine AOps.takeV rfl g21 rfl (W.cmpT rfl rfl rfl rfl rfl ?_)
    | refine AOps.takeV rfl g21 rfl (W.indexAddr rfl rfl rfl rfl rfl rfl (by decide) (by decide) cons_ne ?_)
    | refine AOps.takeV rfl g21 rfl (W.indexAddr rfl rfl rfl rfl rfl rfl (by decide) (by decide) n2 ?_)
    | refine AOps.takeV rfl g21 rfl (W.indexAddr rfl rfl rfl rfl rfl rfl (by decide) (by decide) n3 ?_)
    | refine AOps.takeV rfl g21 rfl (W.indexAddr rfl rfl rfl rfl rfl rfl (by decide) (by decide) n4 ?_)
    | refine AOps.takeV rfl g21 rfl (W.loadRow rfl rfl rfl rfl h2 ?_)
    | refine AOps.takeV rfl g21 rfl (W.loadRow rfl rfl rfl rfl h3 ?_)
    | refine AOps.takeV rfl g21 rfl (W.loadRow rfl rfl rfl rfl h4 ?_)
    | refine AOps.takeV rfl g30 rfl (W.pure rfl rfl rfl ?_)
    | refine AOps.takeV rfl g30 rfl (W.cmpT rfl rfl rfl rfl rfl ?_)
    | refine AOps.takeV rfl g30 rfl (W.indexAddr rfl rfl rfl rfl rfl rfl (by decide) (by decide) cons_ne ?_)
    | refine AOps.takeV rfl g30 rfl (W.indexAddr rfl rfl rfl rfl rfl rfl (by decide) (by decide) n2 ?_)
    | refine AOps.takeV rfl g30 rfl (W.indexAddr rfl rfl rfl rfl rfl rfl (by decide) (by decide) n3 ?_)
    | refine AOps.takeV rfl g30 rfl (W.indexAddr rfl rfl rfl rfl rfl rfl (by decide) (by decide) n4 ?_)
    | refine AOps.takeV rfl g30 rfl (W.loadRow rfl rfl rfl rfl h2 ?_)
    | refine AOps.takeV rfl g30 rfl (W.loadRow rfl rfl rfl rfl h3 ?_)
    | refine AOps.takeV rfl g30 rfl (W.loadRow rfl rfl rfl rfl h4 ?_)
    | refine AOps.takeV rfl g42 rfl (W.pure rfl rfl rfl ?_)
    | refine AOps.takeV rfl g42 rfl (W.cmpT rfl rfl rfl rfl rfl ?_)
    | refine AOps.takeV rfl g42 rfl (W.indexAddr rfl rfl rfl rfl rfl rfl (by decide) (by decide) cons_ne ?_)
    | refine AOps.takeV rfl g42 rfl (W.indexAddr rfl rfl rfl rfl rfl rfl (by decide) (by decide) n2 ?_)
    | refine AOps.takeV rfl g42 rfl (W.indexAddr rfl rfl rfl rfl rfl rfl (by decide) (by decide) n3 ?_)
    | refine AOps.takeV rfl g42 rfl (W.indexAddr rfl rfl rfl rfl rfl rfl (by decide) (by decide) n4 ?_)
    | refine AOps.takeV rfl g42 rfl (W.loadRow rfl rfl rfl rfl h2 ?_)
    | refine AOps.takeV rfl g42 rfl (W.loadRow rfl rfl rfl rfl h3 ?_)
    | refine AOps.takeV rfl g42 rfl (W.loadRow rfl rfl rfl rfl h4 ?_)
    | refine AOps.takeV rfl g57 rfl (W.pure rfl rfl rfl ?_)
    | refine AOps.takeV rfl g57 rfl (W.cmpT rfl rfl rfl rfl rfl ?_)
    | refine AOps.takeV rfl g57 rfl (W.indexAddr rfl rfl rfl rfl rfl rfl (by decide) (by decide) cons_ne ?_)
    | refine AOps.takeV rfl g57 rfl (W.indexAddr rfl rfl rfl rfl rfl rfl (by decide) (by decide) n2 ?_)
    | refine AOps.takeV rfl g57 rfl (W.indexAddr rfl rfl rfl rfl rfl rfl (by decide) (by decide) n3 ?_)
    | refine AOps.takeV rfl g57 rfl (W.indexAddr rfl rfl rfl rfl rfl rfl (by decide) (by decide) n4 ?_)
    | refine AOps.takeV rfl g57 rfl (W.loadRow rfl rfl rfl rfl h2 ?_)
    | refine AOps.takeV rfl g57 rfl (W.loadRow rfl rfl rfl rfl h3 ?_)
    | refine AOps.takeV rfl g57 rfl (W.loadRow rfl rfl rfl rfl h4 ?_)
    | refine AOps.nil ?_
    | refine AThen.normal ?_
    | refine AWp.ret ?_)
  exact bodyQ.one rfl rfl rfl ⟨rfl, rfl⟩

end Go.Proofs.Ytceocfancfjdjaa
