/- (D) The one call that each law tries: it answers as it should. No condition. -/
import Derived.Test.YtceocfancfjdjaaNorm
namespace Go.Proofs.Ytceocfancfjdjaa
open Go Go.RowKit
attribute [local irreducible] ACalls AOps AOp AWp AWpL AThen AInBlock bodyQ seq DOps

theorem cons_ne {c : CV} {r : List CV} : c :: r ≠ [] := by simp
theorem pause {P : Prop} (h : Unit → P) : P := h ()

set_option maxHeartbeats 16000000 in
theorem works_ok : ACalls 6 [] [] (fun r M' => r = .ret (.bool true) ∧ M' = []) := by
  have hres := resolve_ok workT workT_small workT_roomy
  rw [workT_resolve] at hres
  simp only at hres
  refine ACalls.of_body Try.func6 rfl rfl rfl ?_
  simp only [Try.ntmps6, frOf]
  repeat' (first
      | (show DOps _ _ _ _ _ _ _ _ _ _ _; first
          | refine D.end ?_
          | refine D.val (.inl rfl) rfl rfl rfl ?_
          | refine D.leave rfl rfl rfl rfl ?_
          | refine D.val (Wants.take rfl rfl) rfl rfl rfl ?_
          | refine D.cmp rfl (.inl rfl) rfl rfl rfl (fun _ => ?_) (fun _ => ?_)
          | refine D.valO (.inl rfl) rfl rfl rfl rfl ?_
          | refine D.build (.inl rfl) rfl rfl rfl rfl rfl rfl rfl ?_
          | refine D.buildSlice (.inl rfl) rfl rfl rfl rfl rfl rfl rfl rfl rfl ?_
          | refine D.cmp rfl (Wants.take rfl rfl) rfl rfl rfl (fun _ => ?_) (fun _ => ?_)
          | refine D.valO (Wants.take rfl rfl) rfl rfl rfl rfl ?_
          | refine D.build (Wants.take rfl rfl) rfl rfl rfl rfl rfl rfl rfl ?_
          | refine D.buildSlice (Wants.take rfl rfl) rfl rfl rfl rfl rfl rfl rfl rfl rfl ?_)
      | (show AOps _ _ _ _ _ _; first
          | refine AOps.nil ?_
          | refine AOps.plain rfl (W.pure rfl rfl rfl ?_)
          | refine AOps.plain rfl (W.callV rfl rfl rfl rfl rfl (ACalls.norm hres rfl) rfl rfl rfl ?_)
          | refine AOps.plain rfl (W.cmp rfl rfl rfl rfl (fun _ => ?_) (fun _ => ?_))
          | refine W.leave rfl rfl rfl rfl ?_
          | refine AOps.take rfl rfl (W.pure rfl rfl rfl ?_)
          | refine AOps.take rfl rfl (W.callV rfl rfl rfl rfl rfl (ACalls.norm hres rfl) rfl rfl rfl ?_)
          | refine AOps.take rfl rfl (W.cmp rfl rfl rfl rfl (fun _ => ?_) (fun _ => ?_))
          | refine AOps.plain rfl (W.boxI rfl rfl rfl rfl rfl rfl ?_)
          | refine AOps.plain rfl (W.build rfl rfl rfl rfl rfl rfl rfl ?_)
          | refine AOps.plain rfl (W.alloc rfl rfl rfl rfl rfl ?_)
          | refine AOps.plain rfl (W.storeL rfl rfl rfl rfl rfl rfl rfl rfl rfl ?_)
          | refine AOps.plain rfl (W.buildSlice rfl rfl rfl rfl rfl rfl rfl rfl rfl ?_))
      | (show AWp _ _ _ _ _; first
          | (show AWp _ _ (.seq (.region 5 _ _) _) _ _; refine AWp.freezeBox (t0 := 4) (d := 4) (cs := [.int .i64 1, .islice [.int .i64 0, .int .i64 0, .islice (rows [.mk 34 0 0 nothing [] [nameN 20 1] 0]) 1, .int .i64 1, .int .i64 1, .islice (rows [.mk 31 0 0 nothing [] [.mk 10 1 0 nothing [] [nameN 19 0, nameN 18 0] 0] 0]) 1] 2]) (fr' := [(6, .int .i64 0)]) ⟨rfl, rfl, trivial⟩ rfl rfl rfl (pause ?_))
          | refine AWp.seq ?_
          | refine AWp.region ?_
          | refine AWp.condT rfl ?_
          | refine AWp.condF rfl ?_
          | refine AWp.skip ?_
          | refine AWp.block ?_
          | refine AWp.exit ?_
          | refine AWp.ret ?_
          | refine AWp.draw0 (by kernel_rfl) ?_)
      | refine AThen.normal ?_
      | refine AThen.exit ?_
      | refine AThen.ret ?_
      | refine AThen.pan ?_
      | refine AInBlock.pan ?_
      | refine AInBlock.normal ?_
      | refine AInBlock.ret ?_
      | refine AInBlock.same ?_
      | refine AInBlock.other rfl ?_)
  intro _
  clear hres
  obtain ⟨r1, e1⟩ : ∃ r, r = rows [.mk 34 0 0 nothing [] [nameN 20 1] 0] := ⟨_, rfl⟩
  obtain ⟨r2, e2⟩ : ∃ r, r = rows [.mk 31 0 0 nothing [] [.mk 10 1 0 nothing [] [nameN 19 0, nameN 18 0] 0] 0] := ⟨_, rfl⟩
  obtain ⟨r3, e3⟩ : ∃ r, r = rows [.mk 10 1 0 nothing [] [nameN 19 0, nameN 18 0] 0] := ⟨_, rfl⟩
  obtain ⟨r4, e4⟩ : ∃ r, r = rows [nameN 19 0, nameN 18 0] := ⟨_, rfl⟩
  have h2 : ld 23 r2 5 = some (.islice r3 1) := by rw [e2, e3]; rfl
  have h3 : ld 23 r3 5 = some (.islice r4 2) := by rw [e3, e4]; rfl
  have h4 : ld 3 r4 0 = some (.int .i64 19) := by rw [e4]; rfl
  have n2 : r2 ≠ [] := by rw [e2]; exact cons_ne
  have n3 : r3 ≠ [] := by rw [e3]; exact cons_ne
  have n4 : r4 ≠ [] := by rw [e4]; exact cons_ne
  rw [← e1, ← e2]
  clear e1 e2 e3 e4
  refine AWp.seq (AWp.regionV ?_)
  intro ops hops
  have g2 : (ops[2]?).bind Oper.dst = some 30 := (hops 2).trans rfl
  have g7 : (ops[7]?).bind Oper.dst = some 35 := (hops 7).trans rfl
  have g13 : (ops[13]?).bind Oper.dst = some 41 := (hops 13).trans rfl
  have g21 : (ops[21]?).bind Oper.dst = some 49 := (hops 21).trans rfl
  have g30 : (ops[30]?).bind Oper.dst = some 58 := (hops 30).trans rfl
  have g42 : (ops[42]?).bind Oper.dst = some 70 := (hops 42).trans rfl
  have g57 : (ops[57]?).bind Oper.dst = some 85 := (hops 57).trans rfl
  clear hops
  repeat' (first
    | refine AOps.plain rfl (W.pure rfl rfl rfl ?_)
    | refine AOps.plain rfl (W.cmpT rfl rfl rfl rfl rfl ?_)
    | refine AOps.takeV rfl g2 rfl (W.pure rfl rfl rfl ?_)
    | refine AOps.takeV rfl g2 rfl (W.cmpT rfl rfl rfl rfl rfl ?_)
    | refine AOps.takeV rfl g2 rfl (W.indexAddr rfl rfl rfl rfl rfl rfl (by decide) (by decide) cons_ne ?_)
    | refine AOps.takeV rfl g2 rfl (W.indexAddr rfl rfl rfl rfl rfl rfl (by decide) (by decide) n2 ?_)
    | refine AOps.takeV rfl g2 rfl (W.indexAddr rfl rfl rfl rfl rfl rfl (by decide) (by decide) n3 ?_)
    | refine AOps.takeV rfl g2 rfl (W.indexAddr rfl rfl rfl rfl rfl rfl (by decide) (by decide) n4 ?_)
    | refine AOps.takeV rfl g2 rfl (W.loadRow rfl rfl rfl rfl h2 ?_)
    | refine AOps.takeV rfl g2 rfl (W.loadRow rfl rfl rfl rfl h3 ?_)
    | refine AOps.takeV rfl g2 rfl (W.loadRow rfl rfl rfl rfl h4 ?_)
    | refine AOps.takeV rfl g7 rfl (W.pure rfl rfl rfl ?_)
    | refine AOps.takeV rfl g7 rfl (W.cmpT rfl rfl rfl rfl rfl ?_)
    | refine AOps.takeV rfl g7 rfl (W.indexAddr rfl rfl rfl rfl rfl rfl (by decide) (by decide) cons_ne ?_)
    | refine AOps.takeV rfl g7 rfl (W.indexAddr rfl rfl rfl rfl rfl rfl (by decide) (by decide) n2 ?_)
    | refine AOps.takeV rfl g7 rfl (W.indexAddr rfl rfl rfl rfl rfl rfl (by decide) (by decide) n3 ?_)
    | refine AOps.takeV rfl g7 rfl (W.indexAddr rfl rfl rfl rfl rfl rfl (by decide) (by decide) n4 ?_)
    | refine AOps.takeV rfl g7 rfl (W.loadRow rfl rfl rfl rfl h2 ?_)
    | refine AOps.takeV rfl g7 rfl (W.loadRow rfl rfl rfl rfl h3 ?_)
    | refine AOps.takeV rfl g7 rfl (W.loadRow rfl rfl rfl rfl h4 ?_)
    | refine AOps.takeV rfl g13 rfl (W.pure rfl rfl rfl ?_)
    | refine AOps.takeV rfl g13 rfl (W.cmpT rfl rfl rfl rfl rfl ?_)
    | refine AOps.takeV rfl g13 rfl (W.indexAddr rfl rfl rfl rfl rfl rfl (by decide) (by decide) cons_ne ?_)
    | refine AOps.takeV rfl g13 rfl (W.indexAddr rfl rfl rfl rfl rfl rfl (by decide) (by decide) n2 ?_)
    | refine AOps.takeV rfl g13 rfl (W.indexAddr rfl rfl rfl rfl rfl rfl (by decide) (by decide) n3 ?_)
    | refine AOps.takeV rfl g13 rfl (W.indexAddr rfl rfl rfl rfl rfl rfl (by decide) (by decide) n4 ?_)
    | refine AOps.takeV rfl g13 rfl (W.loadRow rfl rfl rfl rfl h2 ?_)
    | refine AOps.takeV rfl g13 rfl (W.loadRow rfl rfl rfl rfl h3 ?_)
    | refine AOps.takeV rfl g13 rfl (W.loadRow rfl rfl rfl rfl h4 ?_)
    | refine AOps.takeV rfl g21 rfl (W.pure rfl rfl rfl ?_)
    | refine AOps.takeV rfl g21 rfl (W.cmpT rfl rfl rfl rfl rfl ?_)
    | refine AOps.takeV rfl g21 rfl (W.indexAddr rfl rfl rfl rfl rfl rfl (by decide) (by decide) cons_ne ?_)
    | refine AOps.takeV rfl g21 rfl (W.indexAddr rfl rfl rfl rfl rfl rfl (by decide) (by decide) n2 ?_)
    | refine AOps.takeV rfl g21 rfl (W.indexAddr rfl rfl rfl rfl rfl rfl (by decide) (by decide) n3 ?_)
    | refine AOps.takeV rfl g21 rfl (W.indexAddr rfl rfl rfl rfl rfl rfl (by decide) (by decide) n4 ?_)
    | refine AOps.takeV rfl g21 rfl (W.loadRow rfl rfl rfl rfl h2 ?_)
    | refine AOps.takeV rfl g21 rfl (W.loadRow rfl rfl rfl rfl h3 ?_)
    | refine AOps.takeV rfl g21 rfl (W.loadRow rfl rfl rfl rfl h4 ?_)
    | refine AOps.takeV rfl g30 rfl (W.pure rfl rfl rfl ?_)
    | refine AOps.takeV rfl g30 rfl (W.cmpT rfl rfl rfl rfl rfl ?_)
    | refine AOps.takeV rfl g30 rfl (W.indexAddr rfl rfl rfl rfl rfl rfl (by decide) (by decide) cons_ne ?_)
    | refine AOps.takeV rfl g30 rfl (W.indexAddr rfl rfl rfl rfl rfl rfl (by decide) (by decide) n2 ?_)
    | refine AOps.takeV rfl g30 rfl (W.indexAddr rfl rfl rfl rfl rfl rfl (by decide) (by decide) n3 ?_)
    | refine AOps.takeV rfl g30 rfl (W.indexAddr rfl rfl rfl rfl rfl rfl (by decide) (by decide) n4 ?_)
    | refine AOps.takeV rfl g30 rfl (W.loadRow rfl rfl rfl rfl h2 ?_)
    | refine AOps.takeV rfl g30 rfl (W.loadRow rfl rfl rfl rfl h3 ?_)
    | refine AOps.takeV rfl g30 rfl (W.loadRow rfl rfl rfl rfl h4 ?_)
    | refine AOps.takeV rfl g42 rfl (W.pure rfl rfl rfl ?_)
    | refine AOps.takeV rfl g42 rfl (W.cmpT rfl rfl rfl rfl rfl ?_)
    | refine AOps.takeV rfl g42 rfl (W.indexAddr rfl rfl rfl rfl rfl rfl (by decide) (by decide) cons_ne ?_)
    | refine AOps.takeV rfl g42 rfl (W.indexAddr rfl rfl rfl rfl rfl rfl (by decide) (by decide) n2 ?_)
    | refine AOps.takeV rfl g42 rfl (W.indexAddr rfl rfl rfl rfl rfl rfl (by decide) (by decide) n3 ?_)
    | refine AOps.takeV rfl g42 rfl (W.indexAddr rfl rfl rfl rfl rfl rfl (by decide) (by decide) n4 ?_)
    | refine AOps.takeV rfl g42 rfl (W.loadRow rfl rfl rfl rfl h2 ?_)
    | refine AOps.takeV rfl g42 rfl (W.loadRow rfl rfl rfl rfl h3 ?_)
    | refine AOps.takeV rfl g42 rfl (W.loadRow rfl rfl rfl rfl h4 ?_)
    | refine AOps.takeV rfl g57 rfl (W.pure rfl rfl rfl ?_)
    | refine AOps.takeV rfl g57 rfl (W.cmpT rfl rfl rfl rfl rfl ?_)
    | refine AOps.takeV rfl g57 rfl (W.indexAddr rfl rfl rfl rfl rfl rfl (by decide) (by decide) cons_ne ?_)
    | refine AOps.takeV rfl g57 rfl (W.indexAddr rfl rfl rfl rfl rfl rfl (by decide) (by decide) n2 ?_)
    | refine AOps.takeV rfl g57 rfl (W.indexAddr rfl rfl rfl rfl rfl rfl (by decide) (by decide) n3 ?_)
    | refine AOps.takeV rfl g57 rfl (W.indexAddr rfl rfl rfl rfl rfl rfl (by decide) (by decide) n4 ?_)
    | refine AOps.takeV rfl g57 rfl (W.loadRow rfl rfl rfl rfl h2 ?_)
    | refine AOps.takeV rfl g57 rfl (W.loadRow rfl rfl rfl rfl h3 ?_)
    | refine AOps.takeV rfl g57 rfl (W.loadRow rfl rfl rfl rfl h4 ?_)
    | refine AOps.nil ?_
    | refine AThen.normal ?_
    | refine AWp.ret ?_)
  exact bodyQ.one rfl rfl rfl ⟨rfl, rfl⟩

end Go.Proofs.Ytceocfancfjdjaa
