/- The rules by which a region whose order is left open is gone through in the text's own order. No condition. -/
import Derived.Test.YtceocfancfjdjaaDraw2
namespace Go.Proofs.Ytceocfancfjdjaa
open Go Go.RowKit

def evF (fr : List (Nat × CV)) (x : Operand) : CV := AS.ev { fr := fr, loc := [], M := [], ds := [] } x

theorem uses_op {ops : List Oper} {o : Oper} {x : Operand} {t : Nat} (hx : x ∈ o.op.operands.toList) (e : x = .tmp t) : t ∈ usesOf ops o :=
  List.mem_append_left _ (tmpsOf_mem (e ▸ hx))

theorem ev_agree {ops : List Oper} {o : Oper} {fr fr' : List (Nat × CV)} {loc : List (Nat × AObj)} {M : List AObj} {ds : List CV} {x : Operand} (hx : x ∈ o.op.operands.toList) (ha : Agree (usesOf ops o) fr fr') :
    AS.ev { fr := fr', loc := loc, M := M, ds := ds } x = evF fr x := ev_congr fun t e => ha t (uses_op hx e)

theorem evs_agree {ops : List Oper} {o : Oper} {fr fr' : List (Nat × CV)} {loc : List (Nat × AObj)} {M : List AObj} {ds : List CV} {l : List Operand} (hx : ∀ x, x ∈ l → x ∈ o.op.operands.toList) (ha : Agree (usesOf ops o) fr fr') :
    l.map (AS.ev { fr := fr', loc := loc, M := M, ds := ds }) = l.map (evF fr) := List.map_congr_left fun x hm => ev_agree (hx x hm) ha

def partsF (fr : List (Nat × CV)) (ps : Array (Nat × Operand)) : List (Nat × CV) := ps.toList.map fun p => (p.1, evF fr p.2)

theorem parts_agree {ops : List Oper} {o : Oper} {fr fr' : List (Nat × CV)} {loc : List (Nat × AObj)} {M : List AObj} {ds : List CV} {ps : Array (Nat × Operand)} (hx : ∀ p, p ∈ ps.toList → p.2 ∈ o.op.operands.toList)
    (ha : Agree (usesOf ops o) fr fr') : parts { fr := fr', loc := loc, M := M, ds := ds } ps = partsF fr ps := List.map_congr_left fun p hm => by rw [ev_agree (hx p hm) ha]

section
variable {n : Nat} {ops : List Oper} {effs : List Nat} {Q : APost} {ds : List CV} {cnt i d : Nat} {o : Oper} {rest : List Oper} {fr : List (Nat × CV)} {loc : List (Nat × AObj)} {M : List AObj}

theorem D.end (h : AOps Try.prog n ops.toArray Q rest { fr := fr, loc := loc, M := M, ds := ds }) : DOps n ops effs Q ds 0 i rest fr loc M := h

/-- It reckons with no look at what can turn. -/
theorem D.val {c : CV} (hw : Wants ops fr o) (hdst : o.dst = some d) (h : headO (pstep { fr := fr, loc := [], M := [], ds := [] } o.op) = some c) (hd : Nat.blt d n = true)
    (k : DOps n ops effs Q ds cnt (i + 1) rest ((d, c) :: fr) loc M) : DOps n ops effs Q ds (cnt + 1) i (o :: rest) fr loc M := by
  rw [headO_eq] at h
  refine ⟨c, loc, M, .free hw (fun fr' lc Mc ha => AOp.pure (c := c) ?_ (by rw [hdst]; exact hd) (by rw [put_fr])), by rw [hdst]; exact k⟩
  exact pstep_free ((pstep_congr (ds := []) (ds' := []) fun t ht => ha t (List.mem_append_left _ ht)).trans h)

/-- It looks at what can turn, and its place among the writes is fixed. -/
theorem D.valO {c : CV} (hw : Wants ops fr o) (ho : ordAll ops effs i = true) (hdst : o.dst = some d) (h : headO (pstep { fr := fr, loc := loc, M := M, ds := [] } o.op) = some c) (hd : Nat.blt d n = true)
    (k : DOps n ops effs Q ds cnt (i + 1) rest ((d, c) :: fr) loc M) : DOps n ops effs Q ds (cnt + 1) i (o :: rest) fr loc M := by
  rw [headO_eq] at h
  refine ⟨c, loc, M, .ord hw ho (.inr ⟨rfl, rfl⟩) (fun fr' ha => AOp.pure (c := c) ?_ (by rw [hdst]; exact hd) (by rw [put_fr])), by rw [hdst]; exact k⟩
  exact (pstep_congr (ds' := []) fun t ht => ha t (List.mem_append_left _ ht)).trans h

theorem D.cmp {e : Bool} (_hc : isCmp o.op = true) (hw : Wants ops fr o) (hdst : o.dst = some d) (h : pstep { fr := fr, loc := [], M := [], ds := [] } o.op = some (.bool e)) (hd : Nat.blt d n = true)
    (kt : e = true → DOps n ops effs Q ds cnt (i + 1) rest ((d, .bool true) :: fr) loc M) (kf : e = false → DOps n ops effs Q ds cnt (i + 1) rest ((d, .bool false) :: fr) loc M) :
    DOps n ops effs Q ds (cnt + 1) i (o :: rest) fr loc M := by
  cases e
  · exact D.val hw hdst (by rw [headO_eq]; exact h) hd (kf rfl)
  · exact D.val hw hdst (by rw [headO_eq]; exact h) hd (kt rfl)

theorem D.cmpT {e : Bool} (_hc : isCmp o.op = true) (hw : Wants ops fr o) (hdst : o.dst = some d) (h : pstep { fr := fr, loc := [], M := [], ds := [] } o.op = some (.bool e)) (hd : Nat.blt d n = true)
    (he : e = true) (k : DOps n ops effs Q ds cnt (i + 1) rest ((d, .bool true) :: fr) loc M) : DOps n ops effs Q ds (cnt + 1) i (o :: rest) fr loc M := by
  subst he; exact D.val hw hdst (by rw [headO_eq]; exact h) hd k

theorem D.cmpF {e : Bool} (_hc : isCmp o.op = true) (hw : Wants ops fr o) (hdst : o.dst = some d) (h : pstep { fr := fr, loc := [], M := [], ds := [] } o.op = some (.bool e)) (hd : Nat.blt d n = true)
    (he : e = false) (k : DOps n ops effs Q ds cnt (i + 1) rest ((d, .bool false) :: fr) loc M) : DOps n ops effs Q ds (cnt + 1) i (o :: rest) fr loc M := by
  subst he; exact D.val hw hdst (by rw [headO_eq]; exact h) hd k

theorem D.leave {j : Nat} {b : Bool} (hg : o.guard = some (j, b)) (hb : gskip (gvalF ops fr j) b = true) (hdst : o.dst = some d) (hd : Nat.blt d n = true)
    (k : DOps n ops effs Q ds cnt (i + 1) rest ((d, .tuple []) :: fr) loc M) : DOps n ops effs Q ds (cnt + 1) i (o :: rest) fr loc M :=
  ⟨_, _, _, .skip hg hb (by rw [hdst]; exact hd), by rw [hdst]; exact k⟩

theorem D.indexAddr {t z len : Nat} {x y : Operand} {row : List CV} {j : Int} (hw : Wants ops fr o) (ho : o.op = .indexAddr t x y) (ht : tel t = some z)
    (hx : evF fr x = .islice row len) (hi : evF fr y = .int .i64 j) (hdst : o.dst = some d) (hd : Nat.blt d n = true)
    (h0 : 0 ≤ j) (h1 : j < (len : Int)) (hne : row ≠ []) (k : DOps n ops effs Q ds cnt (i + 1) rest ((d, .iptr row (j.toNat * z)) :: fr) loc M) :
    DOps n ops effs Q ds (cnt + 1) i (o :: rest) fr loc M := by
  refine D.val (c := .iptr row (j.toNat * z)) hw hdst ?_ hd k
  unfold evF at hx hi
  rw [headO_eq, ho]
  simp only [pstep, ht, hx, hi]
  rw [if_pos ⟨h0, h1, hne⟩]

theorem D.loadRow {t off : Nat} {x : Operand} {row : List CV} {c : CV} (hw : Wants ops fr o) (ho : o.op = .load t x) (hx : evF fr x = .iptr row off) (hdst : o.dst = some d)
    (hd : Nat.blt d n = true) (hl : ld t row off = some c) (k : DOps n ops effs Q ds cnt (i + 1) rest ((d, c) :: fr) loc M) : DOps n ops effs Q ds (cnt + 1) i (o :: rest) fr loc M := by
  refine D.val (c := c) hw hdst ?_ hd k
  unfold evF at hx
  rw [headO_eq, ho]
  simp only [pstep, hx]
  exact hl

theorem D.loadBox {t off : Nat} {x : Operand} {nm : Nm} {cs : List CV} {c : CV} (hw : Wants ops fr o) (hor : ordAll ops effs i = true) (ho : o.op = .load t x) (hx : evF fr x = .ptr nm 0 off)
    (hg : AS.get { fr := fr, loc := loc, M := M, ds := [] } nm = some (.box cs)) (hdst : o.dst = some d)
    (hd : Nat.blt d n = true) (hl : ld t cs off = some c) (k : DOps n ops effs Q ds cnt (i + 1) rest ((d, c) :: fr) loc M) : DOps n ops effs Q ds (cnt + 1) i (o :: rest) fr loc M := by
  refine D.valO (c := c) hw hor hdst ?_ hd k
  have hx' : AS.ev { fr := fr, loc := loc, M := M, ds := [] } x = .ptr nm 0 off := hx ▸ ev_congr fun _ _ => rfl
  rw [headO_eq, ho]
  simp only [pstep, hx', hg]
  exact hl

theorem D.callV {c : Call} {x : Operand} {f : FuncId} {cap args : List CV} {v : CV} (hw : Wants ops fr o) (ho : o.op = .call c) (hc : c.callee = .value x) (hx : evF fr x = .func f cap)
    (hargs : c.args.toList.map (evF fr) ++ cap = args) (hdst : o.dst = some d) (hcall : Ans f args v)
    (hn : noLs args = true) (hv : noL v = true) (hd : Nat.blt d n = true) (k : DOps n ops effs Q ds cnt (i + 1) rest ((d, v) :: fr) loc M) :
    DOps n ops effs Q ds (cnt + 1) i (o :: rest) fr loc M := by
  refine ⟨v, loc, M, .free hw (fun fr' lc Mc ha => ?_), by rw [hdst]; exact k⟩
  have hmem : ∀ y, y ∈ c.args.toList → y ∈ o.op.operands.toList := fun y hy => by rw [ho]; simp [Op.operands, Call.operands, Array.mem_toList_iff.1 hy]
  refine AOp.call ho hc ((ev_agree (by rw [ho]; simp [Op.operands, Call.operands, hc]) ha).trans hx) (by rw [evs_agree hmem ha]; exact hargs) hn (hcall Mc) (by rw [hdst]; exact hd) ?_ ?_
  · rintro c' M' ⟨h1, rfl⟩
    cases h1
    exact ⟨hv, by rw [put_fr]⟩
  · rintro c' M' ⟨h1, _⟩
    cases h1

theorem D.callB {c : Call} {x : Operand} {f : FuncId} {cap args : List CV} {b : Bool} (hw : Wants ops fr o) (ho : o.op = .call c) (hc : c.callee = .value x) (hx : evF fr x = .func f cap)
    (hargs : c.args.toList.map (evF fr) ++ cap = args) (hdst : o.dst = some d) (hcall : Ans f args (.bool b))
    (hn : noLs args = true) (hd : Nat.blt d n = true) (kt : b = true → DOps n ops effs Q ds cnt (i + 1) rest ((d, .bool true) :: fr) loc M)
    (kf : b = false → DOps n ops effs Q ds cnt (i + 1) rest ((d, .bool false) :: fr) loc M) : DOps n ops effs Q ds (cnt + 1) i (o :: rest) fr loc M := by
  cases b
  · exact D.callV hw ho hc hx hargs hdst hcall hn rfl hd (kf rfl)
  · exact D.callV hw ho hc hx hargs hdst hcall hn rfl hd (kt rfl)

theorem D.build {t : TypeId} {ps : Array (Nat × Operand)} {cs cs' : List CV} (hw : Wants ops fr o) (ho : o.op = .build t ps) (ht : isBuilt t = true) (hz : tzero t = some cs)
    (hfl : flats (partsF fr ps) = true) (hfill : fillC (bplace t) cs (partsF fr ps) = some cs')
    (hdst : o.dst = some d) (hd : Nat.blt d n = true) (k : DOps n ops effs Q ds cnt (i + 1) rest ((d, .agg cs') :: fr) loc M) : DOps n ops effs Q ds (cnt + 1) i (o :: rest) fr loc M := by
  refine ⟨.agg cs', loc, M, .free hw (fun fr' lc Mc ha => ?_), by rw [hdst]; exact k⟩
  have hp := parts_agree (loc := lc) (M := Mc) (ds := ds) (ps := ps) (fun p hp => by rw [ho]; simp only [Op.operands, Array.toList_map, List.mem_map]; exact ⟨p, hp, rfl⟩) ha
  exact AOp.build ho ht hz (by rw [hp]; exact hfl) (by rw [hp]; exact hfill) (by rw [hdst]; exact hd) (by rw [put_fr])

theorem D.buildSlice {t e sz by' len : Nat} {ps : Array (Nat × Operand)} {zc cs' : List CV} (hw : Wants ops fr o) (ho : o.op = .buildSlice t len ps) (hdst : o.dst = some d) (ht : tapp t = some (e, sz, by')) (hz : tzero e = some zc)
    (hfl : flats (partsF fr ps) = true) (hlen : Nat.ble (len * sz) 16777216 = true)
    (hfill : fillC (fun i => some (i * sz, sz)) (zrow zc len) (partsF fr ps) = some cs') (hn : pures cs' = true)
    (hd : Nat.blt d n = true) (k : DOps n ops effs Q ds cnt (i + 1) rest ((d, .islice cs' len) :: fr) loc M) : DOps n ops effs Q ds (cnt + 1) i (o :: rest) fr loc M := by
  refine ⟨.islice cs' len, loc, M, .free hw (fun fr' lc Mc ha => ?_), by rw [hdst]; exact k⟩
  have hp := parts_agree (loc := lc) (M := Mc) (ds := ds) (ps := ps) (fun p hp => by rw [ho]; simp only [Op.operands, Array.toList_map, List.mem_map]; exact ⟨p, hp, rfl⟩) ha
  exact AOp.buildSliceI ho ht hz (by rw [hp]; exact hfl) hlen (by rw [hp]; exact hfill) hn (by rw [hdst]; exact hd) (by rw [put_fr])

/-- A write, or a call that turns something; its place is fixed. -/
theorem D.eff {v : CV} {loc' : List (Nat × AObj)} {M' : List AObj} (hw : Wants ops fr o) (hor : ordAll ops effs i = true) (hm : effs.contains i = true)
    (h : ∀ fr', Agree (usesOf ops o) fr fr' → AOp Try.prog n o (fun s' => s' = { fr := putF fr' o.dst v, loc := loc', M := M', ds := ds }) Q { fr := fr', loc := loc, M := M, ds := ds })
    (k : DOps n ops effs Q ds cnt (i + 1) rest (putF fr o.dst v) loc' M') : DOps n ops effs Q ds (cnt + 1) i (o :: rest) fr loc M :=
  ⟨v, loc', M', .ord hw hor (.inl (by simpa using hm)) h, k⟩

theorem D.store {t : TypeId} {p x : Operand} {nm : Nm} {off k : Nat} {b : Bool} {cs ys cs' : List CV} (hw : Wants ops fr o) (hor : ordAll ops effs i = true) (hm : effs.contains i = true) (ho : o.op = .store t p x) (hdst : o.dst = none)
    (hp : evF fr p = .ptr nm 0 off) (hg : AS.get { fr := fr, loc := loc, M := M, ds := ds } nm = some (.box cs)) (htk : tk t = some (b, k))
    (hys : (evF fr x).cells = ys) (hf : flat (evF fr x) = true) (hk : ys.length = k) (hset : setK cs off ys = some cs') (hgl : glOk nm (.box cs') = true)
    (kk : DOps n ops effs Q ds cnt (i + 1) rest fr (AS.upd { fr := fr, loc := loc, M := M, ds := ds } nm (.box cs')).loc (AS.upd { fr := fr, loc := loc, M := M, ds := ds } nm (.box cs')).M) :
    DOps n ops effs Q ds (cnt + 1) i (o :: rest) fr loc M := by
  refine D.eff (v := .undef) hw hor hm (fun fr' ha => ?_) (by rw [hdst]; exact kk)
  have hpe := ev_agree (loc := loc) (M := M) (ds := ds) (x := p) (by rw [ho]; simp [Op.operands]) ha
  have hxe := ev_agree (loc := loc) (M := M) (ds := ds) (x := x) (by rw [ho]; simp [Op.operands]) ha
  refine AOp.store ho hdst (hpe.trans hp) (by cases nm <;> exact hg) htk (by rw [hxe]; exact hys) (by rw [hxe]; exact hf) hk hset hgl ?_
  rw [hdst]
  cases nm <;> rfl

theorem D.alloc {t : Nat} {cs : List CV} (hw : Wants ops fr o) (hor : ordAll ops effs i = true) (hm : effs.contains i = true) (ho : o.op = .alloc t) (hdst : o.dst = some d) (hz : tzero t = some cs) (hnew : look loc d = none) (hd : Nat.blt d n = true)
    (k : DOps n ops effs Q ds cnt (i + 1) rest ((d, .ptr (.l d) 0 0) :: fr) ((d, .box cs) :: loc) M) : DOps n ops effs Q ds (cnt + 1) i (o :: rest) fr loc M := by
  refine D.eff (v := .ptr (.l d) 0 0) hw hor hm (fun fr' ha => ?_) (by rw [hdst]; exact k)
  refine AOp.allocL ho hdst hz hnew hd ?_
  rw [hdst]
  rfl

theorem D.append {t e sz by' len m ver : Nat} {x y : Operand} {nm : Nm} {cs ys : List CV} (hw : Wants ops fr o) (hor : ordAll ops effs i = true) (hm : effs.contains i = true)
    (ho : o.op = .call { callee := .builtin .append, args := #[x, y], argTypes := #[t, t] })
    (ht : tapp t = some (e, sz, by')) (hx : evF fr x = .mslice nm ver len) (hg : AS.get { fr := fr, loc := loc, M := M, ds := ds } nm = some (.arr ver e sz cs)) (hlen : cs.length = len * sz) (hy : evF fr y = .islice ys m) (hys : ys.length = m * sz)
    (h1 : ones ys = true) (hgl : glOk nm (.arr (ver + 1) e sz (cs ++ ys)) = true) (hm0 : 0 < m) (hb : (len + m) * by' ≤ 140737488355328) (hm63 : len + m ≤ 9223372036854775807)
    (hdst : o.dst = some d) (hd : Nat.blt d n = true)
    (k : DOps n ops effs Q ds cnt (i + 1) rest ((d, .mslice nm (ver + 1) (len + m)) :: fr) (AS.upd { fr := fr, loc := loc, M := M, ds := ds } nm (.arr (ver + 1) e sz (cs ++ ys))).loc
      (AS.upd { fr := fr, loc := loc, M := M, ds := ds } nm (.arr (ver + 1) e sz (cs ++ ys))).M) : DOps n ops effs Q ds (cnt + 1) i (o :: rest) fr loc M := by
  refine D.eff (v := .mslice nm (ver + 1) (len + m)) hw hor hm (fun fr' ha => ?_) (by rw [hdst]; exact k)
  have hxe := ev_agree (loc := loc) (M := M) (ds := ds) (x := x) (by rw [ho]; simp [Op.operands, Call.operands]) ha
  have hye := ev_agree (loc := loc) (M := M) (ds := ds) (x := y) (by rw [ho]; simp [Op.operands, Call.operands]) ha
  refine AOp.append ho ht (hxe.trans hx) (by cases nm <;> exact hg) hlen (hye.trans hy) hys h1 hgl hm0 hb hm63 (by rw [hdst]; exact hd) ?_
  rw [hdst]
  cases nm <;> rfl

/-- 'append' to what is not there yet: a row of this frame's own. -/
theorem D.appendNil {t e sz by' m : Nat} {x y : Operand} {ys : List CV} (hw : Wants ops fr o) (hor : ordAll ops effs i = true) (hm : effs.contains i = true)
    (ho : o.op = .call { callee := .builtin .append, args := #[x, y], argTypes := #[t, t] })
    (ht : tapp t = some (e, sz, by')) (hx : evF fr x = .nilslice) (hy : evF fr y = .islice ys m) (hys : ys.length = m * sz) (hm0 : 0 < m) (hb : m * by' ≤ 140737488355328) (hm63 : m ≤ 9223372036854775807)
    (hdst : o.dst = some d) (hnone : look loc d = none) (hd : Nat.blt d n = true)
    (k : DOps n ops effs Q ds cnt (i + 1) rest ((d, .mslice (.l d) 0 m) :: fr) ((d, .arr 0 e sz ys) :: loc) M) : DOps n ops effs Q ds (cnt + 1) i (o :: rest) fr loc M := by
  refine D.eff (v := .mslice (.l d) 0 m) hw hor hm (fun fr' ha => ?_) (by rw [hdst]; exact k)
  have hxe := ev_agree (loc := loc) (M := M) (ds := ds) (x := x) (by rw [ho]; simp [Op.operands, Call.operands]) ha
  have hye := ev_agree (loc := loc) (M := M) (ds := ds) (x := y) (by rw [ho]; simp [Op.operands, Call.operands]) ha
  refine AOp.appendNil (nm := .l d) (s' := AS.addL { fr := fr', loc := loc, M := M, ds := ds } d (.arr 0 e sz ys)) ho ht (hxe.trans hx) (hye.trans hy) hys hm0 hb hm63 hnone (getL _ d _) rfl rfl rfl (by rw [hdst]; exact hd) ?_
  rw [hdst]
  rfl

/-- The ways through a region meet again. -/
theorem AWp.cutB {P : Program} {n : Nat} {Q : APost} {s : AS} {id : Nat} {l : List Oper} (I : AS → Prop) (h1 : AOps P n l.toArray (AThen I Q) l s) (h2 : ∀ s, I s → Q .normal s) :
    AWp P n (.region id l.toArray false) Q s := by
  refine AWp.mono (AWp.region h1) ?_
  intro e s' h
  cases e with
  | normal => exact h2 s' h
  | exit i => exact h
  | ret => exact h
  | pan c => exact h

/-- The ways through a piece of code meet again. -/
theorem AWp.cutS {P : Program} {n : Nat} {Q : APost} {s : AS} {x y : Code} (I : AS → Prop) (h1 : AWp P n x (AThen I Q) s) (h2 : ∀ s, I s → AWp P n y Q s) : AWp P n (.seq x y) Q s := by
  refine AWp.seq (AWp.mono h1 ?_)
  intro e s' h
  cases e with
  | normal => exact h2 s' h
  | exit i => exact h
  | ret => exact h
  | pan c => exact h

theorem chkTail_end (ops : List Oper) : chkTail ops ops.length = true := by
  unfold chkTail
  refine List.all_eq_true.2 fun i hi => ?_
  have : i < ops.length := List.mem_range.1 hi
  simp only [Bool.or_eq_true]
  exact .inl (Nat.ble_eq_true_of_le this)

/-- A region that only reads. -/
theorem AWp.draw0 {id : Nat} (hc : chkD ops [] = true) (h : DOps n ops [] Q ds ops.length 0 ops fr loc M) : AWp Try.prog n (.region id ops.toArray true) Q { fr := fr, loc := loc, M := M, ds := ds } :=
  AWp.draw [] ops.length (Nat.ble_eq_true_of_le (Nat.le_refl _)) hc (chkTail_end ops) rfl h

/-- A region with a chain of writes. -/
theorem AWp.drawE {id : Nat} (effs : List Nat) (hc : chkD ops effs = true) (he : effs.all (fun e => Nat.blt e ops.length) = true) (h : DOps n ops effs Q ds ops.length 0 ops fr loc M) :
    AWp Try.prog n (.region id ops.toArray true) Q { fr := fr, loc := loc, M := M, ds := ds } :=
  AWp.draw effs ops.length (Nat.ble_eq_true_of_le (Nat.le_refl _)) hc (chkTail_end ops) he h

end
end Go.Proofs.Ytceocfancfjdjaa
