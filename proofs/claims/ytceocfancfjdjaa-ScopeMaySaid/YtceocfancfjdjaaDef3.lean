/- Rules: asserts, deferred calls, blocks made; a variable that is not written any more. No condition. -/
import Derived.Test.YtceocfancfjdjaaScF
import Derived.Test.YtceocfancfjdjaaDef
namespace Go.Proofs.Ytceocfancfjdjaa
open Go Go.RowKit

section
variable {n : Nat} {Q : APost} {o : Oper} {K : AS → Prop} {fr : List (Nat × CV)} {loc : List (Nat × AObj)} {M : List AObj} {ds : List CV} {d : Nat}

theorem W.assertYes {x : Operand} {t : TypeId} {c : CV} (ho : o.op = .typeAssert x t 44 true) (hx : AS.ev { fr := fr, loc := loc, M := M, ds := ds } x = .iface 44 c) (hdst : o.dst = some d) (hd : Nat.blt d n = true)
    (k : K { fr := (d, .tuple [c, .bool true]) :: fr, loc := loc, M := M, ds := ds }) : AOp Try.prog n o K Q { fr := fr, loc := loc, M := M, ds := ds } :=
  AOp.assertYes ho hx (by rw [hdst]; exact hd) (by rw [hdst]; exact k)

theorem W.assertNo {x : Operand} {t : TypeId} (ho : o.op = .typeAssert x t 44 true) (hx : AS.ev { fr := fr, loc := loc, M := M, ds := ds } x = .nilIface) (hdst : o.dst = some d) (hd : Nat.blt d n = true)
    (k : K { fr := (d, .tuple [.agg [.int .i64 0, .int .i64 0], .bool false]) :: fr, loc := loc, M := M, ds := ds }) : AOp Try.prog n o K Q { fr := fr, loc := loc, M := M, ds := ds } :=
  AOp.assertNo ho hx (by rw [hdst]; exact hd) (by rw [hdst]; exact k)

theorem W.defer {c : Call} {x : Operand} {f : FuncId} {cap : List CV} (ho : o.op = .defer c) (hc : c.callee = .value x) (hargs : c.args = #[]) (hdst : o.dst = none) (hx : AS.ev { fr := fr, loc := loc, M := M, ds := ds } x = .func f cap)
    (k : K { fr := fr, loc := loc, M := M, ds := .func f cap :: ds }) : AOp Try.prog n o K Q { fr := fr, loc := loc, M := M, ds := ds } :=
  AOp.defer ho hc hargs hdst hx k

theorem W.allocG {t : Nat} {cs : List CV} (ho : o.op = .alloc t) (hdst : o.dst = some d) (hz : tzero t = some cs) (hn : noLs cs = true) (hd : Nat.blt d n = true)
    (k : K { fr := (d, .ptr (.g M.length) 0 0) :: fr, loc := loc, M := M ++ [.box cs], ds := ds }) : AOp Try.prog n o K Q { fr := fr, loc := loc, M := M, ds := ds } :=
  AOp.allocG ho hz hn (by rw [hdst]; exact hd) (by rw [hdst]; exact k)

theorem W.boxG {t : Nat} {x : Operand} {cs : List CV} (ho : o.op = .box t x) (hdst : o.dst = some d) (hcs : (AS.ev { fr := fr, loc := loc, M := M, ds := ds } x).cells = cs)
    (hf : flat (AS.ev { fr := fr, loc := loc, M := M, ds := ds } x) = true) (hn : noLs cs = true) (hd : Nat.blt d n = true)
    (k : K { fr := (d, .ptr (.g M.length) 0 0) :: fr, loc := loc, M := M ++ [.box cs], ds := ds }) : AOp Try.prog n o K Q { fr := fr, loc := loc, M := M, ds := ds } :=
  AOp.boxG ho hcs hf hn (by rw [hdst]; exact hd) (by rw [hdst]; exact k)

/-- 'make' of one function. -/
theorem W.makeFn (ho : o.op = .makeSlice 30 (.const (.int .i64 1)) (.const (.int .i64 1))) (hdst : o.dst = some d) (hd : Nat.blt d n = true)
    (k : K { fr := (d, .mslice (.g M.length) 0 1) :: fr, loc := loc, M := M ++ [.arr 0 41 3 [.int .i64 0, .int .i64 0, .nilslice]], ds := ds }) : AOp Try.prog n o K Q { fr := fr, loc := loc, M := M, ds := ds } := by
  intro ρ w a hs
  have hT := Turn.fresh (ρ := ρ) (w := w) (s := { fr := fr, loc := loc, M := M, ds := ds }) (x := .arr 0 41 3 [.int .i64 0, .int .i64 0, .nilslice]) (nm := .g M.length) (by simp [AS.get]) (getG { fr := fr, loc := loc, M := M, ds := ds } _) (.cells #[.int .i64 0, .int .i64 0, .slice none 0 0] 41) 1
  have hi : ∃ i, Try.prog.info? 41 = some i ∧ i.zero = some (.agg #[.int .i64 0, .int .i64 0, .slice none 0 0]) ∧ i.size = 3 ∧ i.bytes = 40 := by
    have h := afo41
    cases hq : Try.prog.info? 41 with
    | none => rw [hq] at h; simp at h
    | some i =>
      rw [hq] at h
      simp at h
      exact ⟨i, rfl, h.1, h.2.1, h.2.2⟩
  obtain ⟨i, hi, hz, hsz, hby⟩ := hi
  have hr : (execOp a.eval o).run Try.prog w = .ok (.value (.slice (some ⟨w.heap.size, 0, none⟩) 1 1)) { w with heap := w.heap.push (.cells #[.int .i64 0, .int .i64 0, .slice none 0 0] 41) } := by
    have h1 := run_make (P := Try.prog) w 30 41 i _ Try.underlying30 hi hz .i64 .i64 1 1 (by decide) (by decide) (by rw [hby]; decide) (by decide)
    rw [hsz] at h1
    simp only [execOp, ho]
    rw [Sem.run_bind]
    show Result.andThen ((Instr.makeSlice 30 (.int .i64 1) (.int .i64 1)).run Try.prog w) _ = _
    rw [h1]
    have hm : madeCells (Value.agg #[Value.int IntKind.i64 0, Value.int IntKind.i64 0, Value.slice none 0 0]).cells (Int.toNat 1 * 3) = #[.int .i64 0, .int .i64 0, .slice none 0 0] := by
      rw [← Array.toList_inj]
      simp [madeCells, Value.cells, List.range_succ]
    rw [hm]
    rfl
  unfold Oper.wp
  rw [hr]
  have hsim := hT.sim hs rfl rfl ⟨#[.int .i64 0, .int .i64 0, .slice none 0 0], by simp [setRho, AObj.ver], by decide, ⟨rfl, fun j c v hc hv => by
      match j with
      | 0 => simp at hc hv; subst hc; subst hv; exact .int _ _
      | 1 => simp at hc hv; subst hc; subst hv; exact .int _ _
      | 2 => simp at hc hv; subst hc; subst hv; exact .nilslice
      | j + 3 => simp at hc⟩, by simp [setRho, AObj.ver], by simp [setRho, AObj.ver, maxLen]⟩ (glOk_spec (o := .g M.length) (x := .arr 0 41 3 [.int .i64 0, .int .i64 0, .nilslice]) rfl)
  simp only [Oper.upon]
  rw [hdst]
  have k' : K ((AS.addG { fr := fr, loc := loc, M := M, ds := ds } (.arr 0 41 3 [.int .i64 0, .int .i64 0, .nilslice])).put (some d) (.mslice (.g M.length) 0 1)) := k
  refine ⟨_, _, k', hsim.put (d := some d) hd ?_, hT.evol.put _ _⟩
  have h := V.mslice (ρ := setRho ρ (.g M.length) 0 (w.heap.size, 1)) (w := { w with heap := w.heap.push (.cells #[.int .i64 0, .int .i64 0, .slice none 0 0] 41) })
    (O := OwnF (setRho ρ (.g M.length) 0 (w.heap.size, 1)) (AS.addG { fr := fr, loc := loc, M := M, ds := ds } (.arr 0 41 3 [.int .i64 0, .int .i64 0, .nilslice])))
    (N := Ok (AS.addG { fr := fr, loc := loc, M := M, ds := ds } (.arr 0 41 3 [.int .i64 0, .int .i64 0, .nilslice]))) (.g M.length) 0 1 ⟨_, hT.new, Nat.zero_le _⟩
  rw [setRho_same] at h
  exact h

end

/-! ### a variable that is not written any more -/
section
variable {n : Nat} {ρ : Rho} {fr' : List (Nat × CV)} {loc : List (Nat × AObj)} {M : List AObj} {w : World} {a : Act} {t0 d off : Nat} {cs : List CV}

theorem Sim.freezeBox (hs : Sim n ρ { fr := (d, .ptr (.l t0) 0 off) :: fr', loc := loc, M := M, ds := [] } w a) (hl : look loc t0 = some (.box cs)) (hn : noLfr fr' = true) (hp : pures cs = true) :
    Sim n ρ { fr := (d, .iptr cs off) :: fr', loc := [], M := M, ds := [] } w a := by
  have hget : AS.get { fr := (d, .ptr (.l t0) 0 off) :: fr', loc := loc, M := M, ds := [] } (.l t0) = some (.box cs) := hl
  have hr := hs.rel.toSt
  refine ⟨⟨hr.obj, hr.inj, hr.fb, hr.fo, hr.gl⟩, hs.size, fun t => ?_, hs.defs.1, fun j c d hc _ => by simp at hc⟩
  have ht := hs.tmp t
  show VS ρ (ASt M) w _ _
  simp only [AS.tmp, look_cons] at ht ⊢
  split at ht
  · rename_i hd
    rw [if_pos hd]
    simp only [Option.getD_some] at ht ⊢
    generalize a.tmps.getD t undef = q at ht
    cases ht
    obtain ⟨cur, e, hb, hV⟩ := hs.rel.obj _ _ hget
    have hsz : cs.length = cur.size := by simpa using hV.1
    have h := V.iptr (ρ := ρ) (w := w) (O := OwnF ρ (ASt M)) (N := Ok (ASt M)) cs off (ρ (.l t0) 0).1 0 cur e (0, 0) hb ?_ hp (by omega) ?_
    · rw [Nat.zero_add] at h; exact h
    · rintro (⟨o', x', hx', hb'⟩ | hF)
      · cases o' with
        | l t' => simp [AS.get, ASt, look] at hx'
        | g i =>
          have := hs.rel.inj (.g i) (.l t0) x' _ hx' hget hb'
          cases this
      · exact hs.rel.fo _ hF ⟨.l t0, _, hget, rfl⟩
    · intro j c v hc hv
      rw [Nat.zero_add] at hv
      exact (hV.2 j c v hc (by simpa using hv)).toSt (pureC_noL c (pures_get hp hc))
  · rename_i hd
    rw [if_neg hd]
    exact ht.toSt (noLfr_tmp hn t)

theorem AWp.freezeBox {P : Program} {c : Code} {Q : APost} {fr : List (Nat × CV)} (h : Sub fr ((d, .ptr (.l t0) 0 off) :: fr')) (hl : look loc t0 = some (.box cs)) (hn : noLfr fr' = true) (hp : pures cs = true)
    (k : AWp P n c Q { fr := (d, .iptr cs off) :: fr', loc := [], M := M, ds := [] }) : AWp P n c Q { fr := fr, loc := loc, M := M, ds := [] } := by
  refine AWp.mask h ?_
  intro ρ w a hs
  refine wp_mono (k ρ w a (hs.freezeBox hl hn hp)) fun _ _ _ ⟨ae, s', ρ', h1, h2, h3, h4⟩ => ⟨ae, s', ρ', h1, h2, h3, ?_⟩
  have ho : ∀ b, Own ρ { fr := (d, .iptr cs off) :: fr', loc := [], M := M, ds := [] } b → Own ρ { fr := (d, .ptr (.l t0) 0 off) :: fr', loc := loc, M := M, ds := [] } b := by
    rintro b ⟨o, x, hx, e⟩
    cases o with
    | l t => simp [AS.get, look] at hx
    | g i => exact ⟨.g i, x, hx, e⟩
  refine ⟨h4.F, h4.os, h4.tape, h4.output, h4.size, fun b hb hO => h4.frame b hb (fun h1 => hO (ho b h1)), fun b hb => (h4.own b hb).imp (ho b) id, fun i k hk => ?_⟩
  obtain ⟨x, hx, hle⟩ := hk
  exact h4.names i k ⟨x, hx, hle⟩

end

end Go.Proofs.Ytceocfancfjdjaa
