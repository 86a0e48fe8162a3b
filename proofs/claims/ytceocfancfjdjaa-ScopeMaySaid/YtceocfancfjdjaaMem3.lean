/- Rows built, appended to; maps. No condition. -/
import Derived.Test.YtceocfancfjdjaaMem2
namespace Go.Proofs.Ytceocfancfjdjaa
open Go Go.RowKit

/-- A slice type's element: its type, its cells, its bytes. -/
def tapp : TypeId → Option (TypeId × Nat × Nat)
  | 22 => some (9, 1, 16)
  | 23 => some (25, 7, 96)
  | 30 => some (41, 3, 40)
  | _ => none

theorem afo9 : (Try.prog.info? 9).map (fun i => (i.zero, i.size, i.bytes)) = some (some (.string ⟨#[]⟩), 1, 16) := by kernel_rfl
theorem afo25 : (Try.prog.info? 25).map (fun i => (i.zero, i.size, i.bytes)) = some (some (.agg #[.int .i64 0, .int .i64 0, .int .i64 0, .string ⟨#[]⟩, .slice none 0 0, .slice none 0 0, .int .i64 0]), 7, 96) := by kernel_rfl
theorem afo41 : (Try.prog.info? 41).map (fun i => (i.zero, i.size, i.bytes)) = some (some (.agg #[.int .i64 0, .int .i64 0, .slice none 0 0]), 3, 40) := by kernel_rfl

theorem app_of_info {e sz by' : Nat} {z : Value} (h : (Try.prog.info? e).map (fun i => (i.zero, i.size, i.bytes)) = some (some z, sz, by')) :
    ∃ i, Try.prog.info? e = some i ∧ i.zero = some z ∧ i.size = sz ∧ i.bytes = by' := by
  cases hi : Try.prog.info? e with
  | none => simp [hi] at h
  | some i => simp [hi] at h; exact ⟨i, rfl, h⟩

theorem tapp_ok {t e sz by' : Nat} (h : tapp t = some (e, sz, by')) : ∃ (i : TypeInfo) (z : Value) (cs : List CV), Try.prog.underlying t = some (.slice e) ∧ Try.prog.info? e = some i ∧ i.zero = some z ∧
    i.size = sz ∧ i.bytes = by' ∧ z.cells.size = sz ∧ 0 < sz ∧ tzero e = some cs ∧ cs = z.cells.toList.map cvOf := by
  unfold tapp at h
  split at h <;> cases h
  · obtain ⟨i, h1, h2, h3, h4⟩ := app_of_info afo9
    exact ⟨i, _, _, Try.underlying22, h1, h2, h3, h4, rfl, by decide, rfl, rfl⟩
  · obtain ⟨i, h1, h2, h3, h4⟩ := app_of_info afo25
    exact ⟨i, _, _, Try.underlying23, h1, h2, h3, h4, rfl, by decide, rfl, rfl⟩
  · obtain ⟨i, h1, h2, h3, h4⟩ := app_of_info afo41
    exact ⟨i, _, _, Try.underlying30, h1, h2, h3, h4, rfl, by decide, rfl, rfl⟩

def zrow (z : List CV) : Nat → List CV
  | 0 => []
  | n + 1 => z ++ zrow z n

theorem zrow_length (z : List CV) (n : Nat) : (zrow z n).length = n * z.length := by
  induction n with
  | zero => simp [zrow]
  | succ n ih => simp [zrow, ih, Nat.add_mul]; omega

theorem zrow_get (z : List CV) (n j : Nat) (h : j < n * z.length) : (zrow z n)[j]? = z[j % z.length]? := by
  induction n generalizing j with
  | zero => simp at h
  | succ n ih =>
    simp only [zrow]
    by_cases hj : j < z.length
    · rw [List.getElem?_append_left hj, Nat.mod_eq_of_lt hj]
    · rw [List.getElem?_append_right (by omega), ih (j - z.length) (by rw [Nat.add_mul] at h; omega), Nat.mod_eq_sub_mod (a := j) (by omega)]

section
variable {n : Nat} {Q : APost} {s : AS} {o : Oper} {K : AS → Prop}

/-- What 'buildSlice' makes. -/
theorem run_buildSlice {ρ : Rho} {w : World} {a : Act} (hs : Sim n ρ s w a) {t e sz by' len : Nat} {ps : Array (Nat × Operand)} {zc cs' : List CV} (ho : o.op = .buildSlice t len ps)
    (ht : tapp t = some (e, sz, by')) (hz : tzero e = some zc) (hfl : flats (parts s ps) = true) (hlen : Nat.ble (len * sz) 16777216 = true)
    (hfill : fillC (fun i => some (i * sz, sz)) (zrow zc len) (parts s ps) = some cs') :
    ∃ vs : Array Value, VL (VS ρ s w) cs' vs.toList ∧ vs.size = len * sz ∧
      (execOp a.eval o).run Try.prog w = .ok (.value (.slice (some ⟨w.heap.size, 0, none⟩) len len)) { w with heap := w.heap.push (.cells vs e) } := by
  obtain ⟨i, z, cs, hu, hi, hiz, hisz, _, hzs, hpos, hz2, hcs⟩ := tapp_ok ht
  rw [hz] at hz2
  cases hz2
  have hp := parts_rel hs ps hfl (fun p => (p.1, a.eval p.2)) (fun _ => rfl)
  have hzl : zc.length = sz := by rw [hcs]; simp [hzs]
  have hle : ¬ len * sz > 2 ^ 24 := by have := Nat.ble_eq ▸ hlen; have := Nat.le_of_ble_eq_true hlen; omega
  have hV0 : VL (VS ρ s w) (zrow zc len) ((Array.range (len * sz)).map (z.cells[· % z.cells.size]!)).toList := by
    refine ⟨by rw [zrow_length, hzl]; simp, fun j c v hc hv => ?_⟩
    have hj : j < len * zc.length := by have := (List.getElem?_eq_some_iff.1 hc).1; rwa [zrow_length] at this
    rw [zrow_get _ _ _ hj, hcs] at hc
    have hj' : j < len * sz := by rwa [hzl] at hj
    have hm : j % sz < sz := Nat.mod_lt _ hpos
    simp [hj', hzs] at hv
    have hlen2 : (List.map cvOf z.cells.toList).length = sz := by simp [hzs]
    rw [hlen2] at hc
    simp at hc
    rw [getElem!_pos z.cells (j % sz) (by omega)] at hv
    rw [Array.getElem?_eq_getElem (by omega)] at hc
    simp at hc
    subst hc; subst hv
    exact V.cvOf _
  obtain ⟨cells, h1, h2⟩ := fill_rel (fun i => some (i * sz, sz)) _ _ _ cs' _ hp.1 hp.2 hV0 hfill
  have hsz' : cells.size = len * sz := by
    have e1 : cs'.length = cells.size := by simpa using h2.1
    have e2 : ∀ (ps : List (Nat × CV)) (cs cs' : List CV), fillC (fun i => some (i * sz, sz)) cs ps = some cs' → cs'.length = cs.length := by
      intro ps
      induction ps with
      | nil => intro cs cs' h; simp [fillC] at h; rw [h]
      | cons p r ih =>
        intro cs cs' h
        obtain ⟨i, c⟩ := p
        simp only [fillC] at h
        cases hb : Nat.beq c.cells.length sz with
        | false => simp [hb] at h
        | true =>
          simp only [hb, cond_true] at h
          split at h
          · rename_i cs1 hset
            have hsp := setK_spec _ _ _ _ hset
            rw [ih _ _ h, hsp.2]
            simp; omega
          · cases h
    have := e2 _ _ _ hfill
    rw [zrow_length, hzl] at this
    omega
  refine ⟨cells, h2, hsz', ?_⟩
  subst hisz
  simp only [Array.toList_map] at h1
  by_cases h0 : len * i.size = 0
  · have hlen0 : len = 0 := by
      rcases Nat.mul_eq_zero.1 h0 with h | h
      · exact h
      · omega
    subst hlen0
    have hr0 : Array.range 0 = #[] := rfl
    simp only [Nat.zero_mul, hr0, List.map_toArray, List.map_nil] at h1
    simp [execOp, ho, Instr.buildSlice, run_underlying hu, sizeOf, typeInfo, hi, newRow, hr0, h1]
  · have hlt : ¬ (16777216 < len * i.size) := by omega
    simp [execOp, ho, Instr.buildSlice, run_underlying hu, sizeOf, typeInfo, hi, newRow, hlt, h0, zeroValue, hiz, h1]

/-- A row built that nobody will write. -/
theorem AOp.buildSliceI {t e sz by' len : Nat} {ps : Array (Nat × Operand)} {zc cs' : List CV} (ho : o.op = .buildSlice t len ps) (ht : tapp t = some (e, sz, by')) (hz : tzero e = some zc)
    (hfl : flats (parts s ps) = true) (hlen : Nat.ble (len * sz) 16777216 = true) (hfill : fillC (fun i => some (i * sz, sz)) (zrow zc len) (parts s ps) = some cs') (hn : pures cs' = true)
    (hd : dstOk n o.dst = true) (k : K (s.put o.dst (.islice cs' len))) : AOp Try.prog n o K Q s := by
  intro ρ w a hs
  obtain ⟨vs, hV, hsz, hr⟩ := run_buildSlice hs ho ht hz hfl hlen hfill
  have hg := Grew.alloc w (.cells vs e)
  unfold Oper.wp
  rw [hr]
  refine ⟨s.put o.dst (.islice cs' len), ρ, k, (hg.sim hs).put hd ?_, hg.evol.put _ _⟩
  have hl2 : len ≤ maxLen := by
    have := Nat.le_of_ble_eq_true hlen
    have hpos : 0 < sz := by obtain ⟨_, _, _, _, _, _, _, _, _, h, _⟩ := tapp_ok ht; exact h
    have : len * 1 ≤ len * sz := Nat.mul_le_mul_left _ hpos
    simp only [maxLen]
    omega
  exact V.islice cs' len w.heap.size 0 len vs e (0, 0) (by simp) (fun hO => by have := hs.rel.own_lt hO; omega) hn (by have := hV.1; simp at this; omega) (Nat.le_refl _) hl2
    (fun j c v hc hcur => hg.val (hV.2 j c v hc (by simpa using hcur)))

/-- A row built that is this frame's own. -/
theorem AOp.buildSliceL {t e sz by' len d : Nat} {ps : Array (Nat × Operand)} {zc cs' : List CV} (ho : o.op = .buildSlice t len ps) (hdst : o.dst = some d) (ht : tapp t = some (e, sz, by')) (hz : tzero e = some zc)
    (hfl : flats (parts s ps) = true) (hlen : Nat.ble (len * sz) 16777216 = true) (hfill : fillC (fun i => some (i * sz, sz)) (zrow zc len) (parts s ps) = some cs')
    (hnew : look s.loc d = none) (hd : Nat.blt d n = true) (k : K ((s.addL d (.arr 0 e sz cs')).put (some d) (.mslice (.l d) 0 len))) : AOp Try.prog n o K Q s := by
  intro ρ w a hs
  obtain ⟨vs, hV, hsz, hr⟩ := run_buildSlice hs ho ht hz hfl hlen hfill
  have hT := Turn.fresh (ρ := ρ) (w := w) (s := s) (x := .arr 0 e sz cs') (nm := .l d) hnew (getL s d _) (.cells vs e) len
  unfold Oper.wp
  rw [hr]
  have hcl : cs'.length = vs.size := by simpa using hV.1
  have hl2 : len ≤ maxLen := by
    have := Nat.le_of_ble_eq_true hlen
    have hpos : 0 < sz := by obtain ⟨_, _, _, _, _, _, _, _, _, h, _⟩ := tapp_ok ht; exact h
    have : len * 1 ≤ len * sz := Nat.mul_le_mul_left _ hpos
    simp only [maxLen]
    omega
  have hsim := hT.sim hs rfl rfl ⟨vs, by simp [setRho, AObj.ver], by omega, ⟨by simp; omega, fun j c v hc hv => hT.val (hV.2 j c v hc (by
      rw [List.getElem?_take] at hv
      split at hv
      · exact hv
      · cases hv))⟩, by simp [setRho, AObj.ver, hsz], by simpa [setRho, AObj.ver] using hl2⟩ (glOk_spec (o := .l d) rfl)
  simp only [Oper.upon]
  rw [hdst]
  refine ⟨_, _, k, hsim.put (d := some d) hd ?_, hT.evol.put _ _⟩
  have h := V.mslice (ρ := setRho ρ (.l d) 0 (w.heap.size, len)) (w := { w with heap := w.heap.push (.cells vs e) }) (O := OwnF (setRho ρ (.l d) 0 (w.heap.size, len)) (s.addL d (.arr 0 e sz cs')))
    (N := Ok (s.addL d (.arr 0 e sz cs'))) (.l d) 0 len ⟨_, hT.new, Nat.zero_le _⟩
  rw [setRho_same] at h
  exact h

theorem islice_cells {ρ : Rho} {w : World} {O : Nat → Prop} {N : Nm → Nat → Prop} {ys : List CV} {m : Nat} {v : Value} (h : V ρ w O N (.islice ys m) v) (hm : 0 < m) :
    ∃ (ad : Addr) (c : Nat) (news : List Value), v = .slice (some ad) m c ∧ VL (V ρ w O N) ys news ∧ ∀ (j : Nat) (u : Value), news[j]? = some u → w.cell? (ad.add j) = some u := by
  cases h with
  | islice0 a cap => omega
  | islice _ _ b off0 cap cur ty fz hb hO hnl hfit hlc hcm hV =>
    refine ⟨⟨b, off0, none⟩, cap, (cur.toList.drop off0).take ys.length, rfl, ⟨by simp; omega, fun j c v hc hv => hV j c v hc ?_⟩, fun j u hu => ?_⟩
    · rw [List.getElem?_take] at hv
      split at hv
      · simpa using hv
      · cases hv
    · rw [List.getElem?_take] at hu
      split at hu
      · have hadd : (⟨b, off0, none⟩ : Addr).add j = ⟨b, off0 + j, none⟩ := by unfold Addr.add; split <;> simp_all
        rw [hadd]
        simp [World.cell?, hb]
        simpa using hu
      · cases hu

theorem drew_push (w : World) (o : Obj) : Grew w { w.drew with heap := w.heap.push o } :=
  ⟨rfl, rfl, rfl, by simp, fun b hb => by simp [Array.getElem?_push]; omega⟩

/-- 'append' to what is not there yet. -/
theorem AOp.appendNil {t e sz by' m : Nat} {x y : Operand} {ys : List CV} {s' : AS} {nm : Nm} (ho : o.op = .call { callee := .builtin .append, args := #[x, y], argTypes := #[t, t] })
    (ht : tapp t = some (e, sz, by')) (hx : s.ev x = .nilslice) (hy : s.ev y = .islice ys m) (hys : ys.length = m * sz) (hm : 0 < m) (hb : m * by' ≤ 140737488355328) (hm63 : m ≤ 9223372036854775807)
    (hnone : s.get nm = none) (hget : ∀ o', s'.get o' = if o' = nm then some (.arr 0 e sz ys) else s.get o') (hfr : s'.fr = s.fr) (hds : s'.ds = s.ds) (hgl : glOk nm (.arr 0 e sz ys) = true)
    (hd : dstOk n o.dst = true) (k : K (s'.put o.dst (.mslice nm 0 m))) : AOp Try.prog n o K Q s := by
  intro ρ w a hs
  obtain ⟨i, z, cs, hu, hi, hiz, hisz, hiby, hzs, hpos, _, _⟩ := tapp_ok ht
  have hxv := hs.ev x
  rw [hx] at hxv
  have hyv := hs.ev y
  rw [hy] at hyv
  obtain ⟨ad, c, news, hv, hV, hcells⟩ := islice_cells hyv hm
  generalize hva : a.eval x = va at hxv
  cases hxv
  have hnl : news.length = m * i.size := by rw [← hV.1, hys, hisz]
  have hrun := run_append_nil (P := Try.prog) w t o.type e i z hu hi hiz ad m c news hnl hcells hm (by omega) (by rw [hiby]; omega)
  have hcap : m ≤ grownCap w m 0 e := grownCap_ge w m 0 e
  have hcm := grownCap_le_maxLen w m 0 e (by simp only [maxLen]; omega)
  have hT : Turn ρ s w (setRho ρ nm 0 (w.heap.size, grownCap w m 0 e)) s' (w.drew.alloc (.cells (news.toArray ++ Builtin.zeroCells z.cells (grownCap w m 0 e - m)) e)) nm (.arr 0 e sz ys) := by
    have h := Turn.fresh (ρ := ρ) (w := w) (s := s) (x := .arr 0 e sz ys) hnone hget (.cells (news.toArray ++ Builtin.zeroCells z.cells (grownCap w m 0 e - m)) e) (grownCap w m 0 e)
    exact ⟨rfl, rfl, rfl, rfl, h.size, h.get, h.new, h.ver, h.rho, h.blk, h.world⟩
  unfold Oper.wp
  have hr : (execOp a.eval o).run Try.prog w = .ok (.value (.slice (some ⟨w.heap.size, 0, none⟩) m (grownCap w m 0 e))) (w.drew.alloc (.cells (news.toArray ++ Builtin.zeroCells z.cells (grownCap w m 0 e - m)) e)) := by
    simp only [execOp, ho, resolve, invoke, builtin, Sem.run_bind, Sem.run_pure, Result.andThen_ok, List.map_toArray, List.map_cons, List.map_nil, hva, hv, hrun]
  rw [hr]
  have hsim := hT.sim hs hfr hds ⟨news.toArray ++ Builtin.zeroCells z.cells (grownCap w m 0 e - m), by rw [setRho_same]; exact heap_alloc_new w.drew _, by simp [hV.1], ⟨by simp [hV.1], fun j c v hc hv => hT.val (hV.2 j c v hc (by
      rw [List.getElem?_take] at hv
      split at hv
      · rename_i hj
        rw [hV.1] at hj
        simpa [List.getElem?_append_left hj] using hv
      · cases hv))⟩, by
        rw [setRho_same]
        simp only [Array.size_append, List.size_toArray, size_zeroCells, hzs, ← hV.1, hys, ← Nat.add_mul]
        congr 1
        omega, by rw [setRho_same]; exact hcm⟩ (glOk_spec hgl)
  refine ⟨_, _, k, hsim.put hd ?_, hT.evol.put _ _⟩
  have h := V.mslice (ρ := setRho ρ nm 0 (w.heap.size, grownCap w m 0 e)) (w := (w.drew.alloc (.cells (news.toArray ++ Builtin.zeroCells z.cells (grownCap w m 0 e - m)) e)))
    (O := OwnF (setRho ρ nm 0 (w.heap.size, grownCap w m 0 e)) s') (N := Ok s') nm 0 m ⟨_, hT.new, Nat.zero_le _⟩
  rw [setRho_same] at h
  exact h

theorem appRun {w w' : World} {a : Act} {x y : Operand} {t : TypeId} {vx vy v : Value} (ho : o.op = .call { callee := .builtin .append, args := #[x, y], argTypes := #[t, t] })
    (hx : a.eval x = vx) (hy : a.eval y = vy) (hr : (Builtin.append_ #[t, t] o.type #[vx, vy]).run Try.prog w = .ok v w') : (execOp a.eval o).run Try.prog w = .ok (.value v) w' := by
  simp only [execOp, ho, resolve, invoke, builtin, Sem.run_bind, Sem.run_pure, Result.andThen_ok, List.map_toArray, List.map_cons, List.map_nil, hx, hy, hr]

/-- 'append' to a row of one's own. -/
theorem AOp.append {t e sz by' len m ver : Nat} {x y : Operand} {nm : Nm} {cs ys : List CV} (ho : o.op = .call { callee := .builtin .append, args := #[x, y], argTypes := #[t, t] })
    (ht : tapp t = some (e, sz, by')) (hx : s.ev x = .mslice nm ver len) (hg : s.get nm = some (.arr ver e sz cs)) (hlen : cs.length = len * sz) (hy : s.ev y = .islice ys m) (hys : ys.length = m * sz)
    (h1 : ones ys = true) (hgl : glOk nm (.arr (ver + 1) e sz (cs ++ ys)) = true) (hm : 0 < m) (hb : (len + m) * by' ≤ 140737488355328) (hm63 : len + m ≤ 9223372036854775807)
    (hd : dstOk n o.dst = true) (k : K ((s.upd nm (.arr (ver + 1) e sz (cs ++ ys))).put o.dst (.mslice nm (ver + 1) (len + m)))) : AOp Try.prog n o K Q s := by
  intro ρ w a hs
  obtain ⟨i, z, _, hu, hi, hiz, hisz, hiby, hzs, hpos, _, _⟩ := tapp_ok ht
  have hxv := hs.ev x
  rw [hx] at hxv
  have hyv := hs.ev y
  rw [hy] at hyv
  obtain ⟨ad, c, news, hv, hV, hcells⟩ := islice_cells hyv hm
  generalize hva : a.eval x = va at hxv
  cases hxv
  obtain ⟨cur, hcur, hfit, hcV, hcs, hcm⟩ := hs.rel.obj _ _ hg
  have hnl : news.length = m * i.size := by rw [← hV.1, hys, hisz]
  have holds : ∀ (j : Nat) (v : Value), (cur.toList.take (len * sz))[j]? = some v → w.cell? ((⟨(ρ nm ver).1, 0, none⟩ : Addr).add j) = some v := by
    intro j v hj
    have hadd : (⟨(ρ nm ver).1, 0, none⟩ : Addr).add j = ⟨(ρ nm ver).1, j, none⟩ := by unfold Addr.add; split <;> simp_all
    rw [hadd]
    rw [List.getElem?_take] at hj
    split at hj
    · simp [World.cell?, hcur]; simpa using hj
    · cases hj
  have step : ∀ (g' cap' : Nat) (cur' : Array Value) (w' : World), (execOp a.eval o).run Try.prog w = .ok (.value (.slice (some ⟨g', 0, none⟩) (len + m) cap')) w' →
      w'.os = w.os → w'.tape = w.tape → w'.output = w.output → w.heap.size ≤ w'.heap.size → (g' = (ρ nm ver).1 ∨ w.heap.size ≤ g') →
      (∀ b, b < w.heap.size → b ≠ (ρ nm ver).1 → w'.heap[b]? = w.heap[b]?) → w'.heap[g']? = some (.cells cur' e (0, 0)) → cur'.size = cap' * sz → cap' ≤ maxLen → len + m ≤ cap' →
      cur'.toList.take ((len + m) * sz) = cur.toList.take (len * sz) ++ news →
      o.wp Try.prog a w (fun a' w' => ∃ s' ρ', K s' ∧ Sim n ρ' s' w' a' ∧ Evol ρ s w ρ' s' w') (AQ n Q ρ s w) := by
    intro g' cap' cur' w' hr hos htp hout hsz hg' hw hcell hc1 hc2 hc3 hc4
    have hT : Turn ρ s w (setRho ρ nm (ver + 1) (g', cap')) (s.upd nm (.arr (ver + 1) e sz (cs ++ ys))) w' nm (.arr (ver + 1) e sz (cs ++ ys)) := by
      refine ⟨rfl, hos, htp, hout, hsz, fun o' ho' => by simp [getU hg, ho'], by simp [getU hg], fun y hy => ?_, fun o' q hq => ?_, ?_, fun b hb hne => hw b hb ?_⟩
      · rw [hg] at hy; cases hy; simp [AObj.ver]
      · obtain ⟨y, hy, hq'⟩ := hq
        by_cases ho' : o' = nm
        · subst ho'
          rw [hg] at hy; cases hy
          simp only [AObj.ver] at hq'
          simp [setRho, show q ≠ ver + 1 by omega]
        · simp [setRho, ho']
      · rcases hg' with h | h
        · exact .inl ⟨_, hg, by simp [setRho, AObj.ver, h]⟩
        · exact .inr (by simpa [setRho, AObj.ver] using h)
      · exact hne _ hg
    unfold Oper.wp
    rw [hr]
    have hcl : (cs ++ ys).length = (len + m) * sz := by rw [List.length_append, hlen, hys, Nat.add_mul]
    have hle : (len + m) * sz ≤ cap' * sz := Nat.mul_le_mul_right _ hc3
    have hsim := hT.sim hs (upd_fr _ _) (upd_ds _ _) ⟨cur', by simpa [setRho] using hcell, by rw [hcl, hc1]; exact hle, by
        rw [hcl, hc4]
        have h5 := (hlen ▸ hcV).append hV
        exact ⟨h5.1, fun j c v hc hv => hT.val (h5.2 j c v hc hv)⟩, by simpa [setRho] using hc1, by simpa [setRho] using hc2⟩ (glOk_spec hgl)
    refine ⟨_, _, k, hsim.put hd ?_, hT.evol.put _ _⟩
    have h := V.mslice (ρ := setRho ρ nm (ver + 1) (g', cap')) (w := w') (O := OwnF (setRho ρ nm (ver + 1) (g', cap')) (s.upd nm (.arr (ver + 1) e sz (cs ++ ys))))
      (N := Ok (s.upd nm (.arr (ver + 1) e sz (cs ++ ys)))) nm (ver + 1) (len + m) ⟨_, hT.new, Nat.le_refl _⟩
    rw [setRho_same] at h
    exact h
  have hsl : (cur.toList.take (len * sz)).length = len * sz := by simp; omega
  by_cases hroom : len + m ≤ (ρ nm ver).2
  · have hfit2 : len * sz + news.length ≤ cur.size := by rw [hnl, hisz, hcs, ← Nat.add_mul]; exact Nat.mul_le_mul_right _ hroom
    have hrun := run_append_room (P := Try.prog) w t o.type e i hu hi (ρ nm ver).1 len (ρ nm ver).2 cur hcur ad m c news hnl hcells (hV.allOne h1) hroom (by rw [hisz]; exact hfit2)
    have hr := appRun ho hva hv hrun
    refine step _ _ _ _ hr
      rfl rfl rfl (by simp) (.inl rfl) (fun b _ hne => setRow_other w _ b _ hne) (setRow_heap w _ cur _ e _ hcur) ?_ hcm hroom ?_
    · simp only [List.size_toArray, List.length_append, List.length_take, List.length_drop, Array.length_toList, hisz]
      omega
    · rw [hisz, ← hsl]
      have : (len + m) * sz = (List.take (len * sz) cur.toList ++ news).length := by rw [List.length_append, hsl, hnl, hisz, Nat.add_mul]
      rw [this, hsl]
      exact List.take_left
  · have hrun := run_append_grow (P := Try.prog) w t o.type e i z hu hi hiz ⟨(ρ nm ver).1, 0, none⟩ len (ρ nm ver).2 (cur.toList.take (len * sz)) (by rw [hsl, hisz]) holds ad m c news hnl hcells (by omega) (by omega)
      (growslice_fits (by omega) (by rw [hiby]; exact hb))
    have hge := grownCap_ge w (len + m) (ρ nm ver).2 e
    have hr := appRun ho hva hv hrun
    refine step _ _ _ _ hr
      rfl rfl rfl (by simp) (.inr (Nat.le_refl _)) (fun b hb _ => heap_alloc_old w.drew _ b hb) (heap_alloc_new w.drew _) ?_ (grownCap_le_maxLen w _ _ e (by simp only [maxLen]; omega)) hge ?_
    · simp only [Array.size_append, List.size_toArray, size_zeroCells, hzs, hsl, hnl, hisz, ← Nat.add_mul]
      congr 1
      omega
    · simp only [Array.toList_append, List.append_assoc]
      have : (len + m) * sz = (List.take (len * sz) cur.toList ++ news).length := by rw [List.length_append, hsl, hnl, hisz, Nat.add_mul]
      rw [this, ← List.append_assoc]
      exact List.take_left

end
end Go.Proofs.Ytceocfancfjdjaa
