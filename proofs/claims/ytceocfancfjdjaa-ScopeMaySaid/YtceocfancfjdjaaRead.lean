/- What is read of an argument is a tree; it lies where the reading says. No condition. -/
import Derived.Test.YtceocfancfjdjaaTree
import Derived.Test.YtceocfancfjdjaaCall
import Derived.ProofKit
import Derived.SizedLaws
namespace Go.Proofs.Ytceocfancfjdjaa
open Go Go.RowKit
open Go.WideShapes (add_plain)

section
variable {ρ : Rho} {W : World} {O : Nat → Prop} {N : Nm → Nat → Prop}

theorem flat_len {f : Nat → List CV} {sz : Nat} : ∀ {l : List Nat}, (∀ i, i ∈ l → (f i).length = sz) → (l.flatMap f).length = l.length * sz
  | [], _ => by simp
  | i :: r, h => by
    rw [List.flatMap_cons, List.length_append, h i (by simp), flat_len (l := r) (fun j hj => h j (by simp [hj])), List.length_cons, Nat.succ_mul]
    omega

theorem flat_get {f : Nat → List CV} {sz : Nat} (hsz : 0 < sz) : ∀ (len k j : Nat) (c : CV), (∀ i, k ≤ i → i < k + len → (f i).length = sz) → ((List.range' k len).flatMap f)[j]? = some c →
    ∃ i r, k ≤ i ∧ i < k + len ∧ r < sz ∧ j = (i - k) * sz + r ∧ (f i)[r]? = some c
  | 0, k, j, c, _, h => by simp at h
  | len + 1, k, j, c, hl, h => by
    rw [List.range'_succ, List.flatMap_cons] at h
    have hk := hl k (Nat.le_refl _) (by omega)
    by_cases hj : j < sz
    · rw [List.getElem?_append_left (by omega)] at h
      exact ⟨k, j, Nat.le_refl _, by omega, hj, by simp, h⟩
    · rw [List.getElem?_append_right (by omega), hk] at h
      obtain ⟨i, r, h1, h2, h3, h4, h5⟩ := flat_get hsz len (k + 1) (j - sz) c (fun i hi1 hi2 => hl i (by omega) (by omega)) h
      refine ⟨i, r, by omega, by omega, h3, ?_, h5⟩
      have e : i - k = (i - (k + 1)) + 1 := by omega
      rw [e, Nat.succ_mul]
      omega

theorem pures_flat {f : Nat → List CV} : ∀ {l : List Nat}, (∀ i, i ∈ l → pures (f i) = true) → pures (l.flatMap f) = true
  | [], _ => rfl
  | i :: r, h => by
    rw [List.flatMap_cons, pures_append, h i (by simp), pures_flat (l := r) (fun j hj => h j (by simp [hj]))]
    rfl

/-- A row that is read. -/
theorem V_row (hO : ∀ b, ¬ O b) {a : Addr} {len cap sz : Nat} (hsz : 0 < sz) (f : Nat → List CV) (hf : ∀ i, i < len → ∃ cs, W.cells? 0 (a.add (i * sz)) sz = some cs ∧ VL (V ρ W O N) (f i) cs)
    (hp : ∀ i, i < len → pures (f i) = true) (hlc : len ≤ cap) (hcm : cap ≤ maxLen) : V ρ W O N (.islice ((List.range len).flatMap f) len) (.slice (some a) len cap) := by
  cases len with
  | zero => exact .islice0 (some a) cap
  | succ n =>
    have hcell : ∀ i r, i < n + 1 → r < sz → ∃ v, W.cell? ((a.add (i * sz)).add r) = some v ∧ ∀ c, (f i)[r]? = some c → V ρ W O N c v := by
      intro i r hi hr
      obtain ⟨cs, h1, h2⟩ := hf i hi
      obtain ⟨_, hl, hc⟩ := World.cells?_some h1
      have := hc r hr
      have hrl : r < cs.length := by omega
      rw [List.getElem?_eq_getElem hrl] at this
      exact ⟨_, this, fun c hcc => h2.2 r c _ hcc (List.getElem?_eq_getElem hrl)⟩
    have hflen : ∀ i, i < n + 1 → (f i).length = sz := by
      intro i hi
      obtain ⟨cs, h1, h2⟩ := hf i hi
      obtain ⟨_, hl, _⟩ := World.cells?_some h1
      rw [h2.1, hl]
    obtain ⟨v0, hv0, _⟩ := hcell 0 0 (by omega) hsz
    obtain ⟨b, off, spot⟩ := a
    have hspot : spot = none := by simpa [Addr.add] using World.cell?_spot hv0
    subst hspot
    have hadd : ∀ i r, ((⟨b, off, none⟩ : Addr).add (i * sz)).add r = ⟨b, off + i * sz + r, none⟩ := by intro i r; rw [add_plain, add_plain]
    have hheap : ∃ cur ty fz, W.heap[b]? = some (.cells cur ty fz) := by
      rw [hadd] at hv0
      unfold World.cell? at hv0
      simp only at hv0
      split at hv0
      · rename_i c1 e1 f1 he; exact ⟨_, _, _, he⟩
      · cases hv0
    obtain ⟨cur, ty, fz, hb⟩ := hheap
    have hcur : ∀ i r v, W.cell? ((⟨b, off, none⟩ : Addr).add (i * sz) |>.add r) = some v → cur[off + i * sz + r]? = some v := by
      intro i r v h
      rw [hadd] at h
      simpa [World.cell?, hb] using h
    have hflat : ((List.range (n + 1)).flatMap f).length = (n + 1) * sz := by
      rw [flat_len (sz := sz) (fun i hi => hflen i (List.mem_range.1 hi)), List.length_range]
    refine V.islice _ (n + 1) b off cap cur ty fz hb (hO b) (pures_flat fun i hi => hp i (List.mem_range.1 hi)) ?_ hlc hcm ?_
    · obtain ⟨v, hv, _⟩ := hcell n (sz - 1) (by omega) (by omega)
      have := (Array.getElem?_eq_some_iff.1 (hcur _ _ _ hv)).1
      rw [hflat, Nat.succ_mul]
      omega
    · intro j c v hj hv
      rw [List.range_eq_range'] at hj
      obtain ⟨i, r, _, h2, h3, h4, h5⟩ := flat_get hsz (n + 1) 0 j c (fun i _ hi => hflen i (by omega)) hj
      obtain ⟨v', hv', hVc⟩ := hcell i r (by omega) h3
      have := hcur _ _ _ hv'
      rw [show off + i * sz + r = off + j by rw [h4]; simp; omega] at this
      rw [this] at hv
      cases hv
      exact hVc c h5

end

theorem cells3 : Try.prog.cellsOf 3 = 1 := by kernel_rfl
theorem cells9 : Try.prog.cellsOf 9 = 1 := by kernel_rfl
theorem cells22 : Try.prog.cellsOf 22 = 1 := by kernel_rfl
theorem cells23 : Try.prog.cellsOf 23 = 1 := by kernel_rfl
theorem cells25 : Try.prog.cellsOf 25 = 7 := by kernel_rfl
theorem bytes9 : Try.prog.bytesOf 9 = 16 := by kernel_rfl
theorem bytes25 : Try.prog.bytesOf 25 = 96 := by kernel_rfl

theorem weights_sub {H : Type} {P : Program} {e : TypeId} {l : List (DataW H)} {x : DataW H} (hx : x ∈ l) {n : Nat} (hn : n ∈ x.weights P e) : n ∈ DataW.weightsAll P e l := by
  induction l with
  | nil => cases hx
  | cons y r ih =>
    simp only [DataW.weightsAll, List.mem_append]
    rcases List.mem_cons.1 hx with e1 | h'
    · rw [← e1]; exact .inl hn
    · exact .inr (ih h')

theorem smalls_of {l : List Tree} (h : ∀ t, t ∈ l → t.small) : smalls l := by
  induction l with
  | nil => trivial
  | cons t r ih => exact ⟨h t (by simp), ih fun x hx => h x (by simp [hx])⟩

theorem rows_map (g : Nat → Tree) : ∀ (l : List Nat), rows (l.map g) = l.flatMap fun i => (g i).cells
  | [] => rfl
  | i :: r => by simp only [List.map_cons, rows, List.flatMap_cons, rows_map g r]

theorem strs_map (g : Nat → ByteArray) : ∀ (l : List Nat), strs (l.map g) = l.flatMap fun i => [CV.str (g i)]
  | [] => rfl
  | i :: r => by
    have := strs_map g r
    simp only [strs] at this ⊢
    simp only [List.map_cons, List.flatMap_cons, this, List.singleton_append]

section
variable {H : Type} {enc : TypeId × Value → H} {ρ : Rho} {W : World} {O : Nat → Prop} {N : Nm → Nat → Prop} {sp : Nat → Bool}

theorem read_names (hO : ∀ b, ¬ O b) {fuel : Nat} {c : Value} {d : DataW H} {ps : List MemPlace} (h : DataW.trod enc Try.prog W 0 sp true fuel 22 [c] = some (d, ps)) (hw : ∀ n, n ∈ d.weights Try.prog 22 → n ≤ reachBytes) :
    ∃ ns : List ByteArray, ns.length < 281474976710656 ∧ (∀ x, x ∈ ns → x.size < 281474976710656) ∧ V ρ W O N (.islice (strs ns) ns.length) c := by
  rcases DataW.trod_slice Try.underlying22 h with ⟨hc, _⟩ | ⟨a, len, cap, elems, rest, n, _, hc, hx, _, hlc, hcm, hel, hels, _, _⟩
  · cases hc
    exact ⟨[], by simp, fun x hx => by simp at hx, .islice0 none 0⟩
  · cases hc
    cases hx
    rw [cells9] at hels
    have hget : ∀ i, i < len → ∃ s : ByteArray, W.cells? 0 (a.add (i * 1)) 1 = some [.string s] ∧ elems[i]? = some (.lit (.string s.data.toList), []) := by
      intro i hi
      have h1 := hels i hi
      have hil : i < elems.length := by omega
      rw [List.getElem?_eq_getElem hil] at h1
      cases hq : W.cells? 0 (a.add (i * 1)) 1 with
      | none => rw [hq] at h1; cases h1
      | some cs =>
        rw [hq, Option.bind_some] at h1
        obtain ⟨s, rfl, hx, _⟩ := DataW.trod_string Try.underlying9 h1
        exact ⟨s, rfl, by rw [List.getElem?_eq_getElem hil, hx]⟩
    let g : Nat → ByteArray := fun i => if hi : i < len then Classical.choose (hget i hi) else ⟨#[]⟩
    have hg : ∀ i, i < len → W.cells? 0 (a.add (i * 1)) 1 = some [.string (g i)] ∧ elems[i]? = some (.lit (.string (g i).data.toList), []) := by
      intro i hi
      simp only [g, hi, dif_pos]
      exact Classical.choose_spec (hget i hi)
    have hwt := hw ((elems.map (·.1)).length * Try.prog.bytesOf 9 + (rest.map (·.1)).length * Try.prog.bytesOf 9) (by simp [DataW.weights, Try.underlying22, Nat.add_mul])
    rw [bytes9] at hwt
    simp only [List.length_map, reachBytes] at hwt
    refine ⟨(List.range len).map g, by simp; omega, fun x hx => ?_, ?_⟩
    · obtain ⟨i, hi, rfl⟩ := List.mem_map.1 hx
      have hi := List.mem_range.1 hi
      have hmem : DataW.lit (.string (g i).data.toList) ∈ elems.map (·.1) := List.mem_map.2 ⟨_, List.mem_of_getElem? (hg i hi).2, rfl⟩
      have h3 : (g i).data.toList.length ∈ DataW.weightsAll Try.prog 9 (elems.map (·.1)) := weights_sub hmem (by simp [DataW.weights])
      have := hw (g i).data.toList.length (by
        simp only [DataW.weights, Try.underlying22]
        exact List.mem_cons_of_mem _ (List.mem_append_left _ h3))
      simp only [reachBytes, Array.length_toList] at this
      show (g i).data.size < _
      omega
    · rw [strs_map]
      have hV := V_row (ρ := ρ) (N := N) hO (a := a) (sz := 1) (by decide) (fun i => [CV.str (g i)]) (fun i hi => ⟨_, (hg i hi).1, rfl, fun j c v hc hv => by
        match j with
        | 0 => simp at hc hv; subst hc; subst hv; exact .str _
        | j + 1 => simp at hc⟩) (fun i _ => rfl) hlc hcm
      simpa using hV

theorem read_node (hO : ∀ b, ¬ O b) : ∀ (fuel : Nat) (cs : List Value) (d : DataW H) (ps : List MemPlace), DataW.trod enc Try.prog W 0 sp true fuel 25 cs = some (d, ps) → (∀ n, n ∈ d.weights Try.prog 25 → n ≤ reachBytes) →
    ∃ t : Tree, t.small ∧ VL (V ρ W O N) t.cells cs := by
  intro fuel
  induction fuel using Nat.strongRecOn with
  | ind fuel ih =>
    intro cs d ps h hw
    obtain ⟨xs, n, rfl, hx, hlen, hxl, hf⟩ := DataW.trod_struct Try.underlying25 h
    cases hx
    rw [cells25] at hlen
    match cs, hlen with
    | [c0, c1, c2, c3, c4, c5, c6], _ =>
      have hxl7 : xs.length = 7 := hxl
      match xs, hxl7 with
      | [x0, x1, x2, x3, x4, x5, x6], _ =>
        have f0 := hf 0 _ rfl
        have f1 := hf 1 _ rfl
        have f2 := hf 2 _ rfl
        have f3 := hf 3 _ rfl
        have f4 := hf 4 _ rfl
        have f5 := hf 5 _ rfl
        have f6 := hf 6 _ rfl
        clear hf
        have hwe : ∀ m, m ∈ DataW.weightsEach Try.prog [3, 3, 3, 9, 22, 23, 3] [x0.1, x1.1, x2.1, x3.1, x4.1, x5.1, x6.1] → m ≤ reachBytes := by
          intro m hm
          refine hw m ?_
          simp only [DataW.weights, Try.underlying25]
          exact hm
        obtain ⟨k, hk, _⟩ := DataW.trod_int Try.underlying3 f0
        obtain ⟨o, ho, _⟩ := DataW.trod_int Try.underlying3 f1
        obtain ⟨m, hm, _⟩ := DataW.trod_int Try.underlying3 f2
        obtain ⟨s, hs, hx3, _⟩ := DataW.trod_string Try.underlying9 f3
        obtain ⟨p, hp, _⟩ := DataW.trod_int Try.underlying3 f6
        cases hk; cases ho; cases hm; cases hs; cases hp
        have hws := hwe s.data.toList.length (DataW.weights_mem_each (j := 3) rfl rfl _ (by rw [hx3]; simp [DataW.weights]))
        obtain ⟨ns, hn1, hn2, hnV⟩ := read_names (ρ := ρ) (N := N) hO (d := x4.1) (ps := x4.2) f4 (fun q hq => hwe q (DataW.weights_mem_each (j := 4) rfl rfl _ hq))
        have hkids : ∃ ks : List Tree, ks.length < 281474976710656 ∧ smalls ks ∧ V ρ W O N (.islice (rows ks) ks.length) c5 := by
          rcases DataW.trod_slice Try.underlying23 f5 with ⟨hc, _⟩ | ⟨a, len, cap, elems, rest, n', rfl, hc, hx, _, hlc, hcm, hel, hels, _, _⟩
          · cases hc
            exact ⟨[], by simp, trivial, .islice0 none 0⟩
          · cases hc
            rw [cells25] at hels
            have hwk : ∀ q, q ∈ x5.1.weights Try.prog 23 → q ≤ reachBytes := fun q hq => hwe q (DataW.weights_mem_each (j := 5) rfl rfl _ hq)
            rw [hx] at hwk
            have hget : ∀ i, i < len → ∃ t : Tree, t.small ∧ ∃ cs, W.cells? 0 (a.add (i * 7)) 7 = some cs ∧ VL (V ρ W O N) t.cells cs := by
              intro i hi
              have h1 := hels i hi
              have hil : i < elems.length := by omega
              rw [List.getElem?_eq_getElem hil] at h1
              cases hq : W.cells? 0 (a.add (i * 7)) 7 with
              | none => rw [hq] at h1; cases h1
              | some cs =>
                rw [hq, Option.bind_some] at h1
                obtain ⟨t, ht1, ht2⟩ := ih n' (by omega) cs (elems[i]).1 (elems[i]).2 h1 (fun q hq2 => hwk q (by
                  simp only [DataW.weights, Try.underlying23]
                  exact List.mem_cons_of_mem _ (List.mem_append_left _ (weights_sub (List.mem_map.2 ⟨elems[i], List.getElem_mem hil, rfl⟩) hq2))))
                exact ⟨t, ht1, cs, rfl, ht2⟩
            let g : Nat → Tree := fun i => if hi : i < len then Classical.choose (hget i hi) else .mk 0 0 0 ⟨#[]⟩ [] [] 0
            have hg : ∀ i, i < len → (g i).small ∧ ∃ cs, W.cells? 0 (a.add (i * 7)) 7 = some cs ∧ VL (V ρ W O N) (g i).cells cs := by
              intro i hi
              simp only [g, hi, dif_pos]
              exact Classical.choose_spec (hget i hi)
            have hwt := hwk ((elems.map (·.1)).length * Try.prog.bytesOf 25 + (rest.map (·.1)).length * Try.prog.bytesOf 25) (by simp [DataW.weights, Try.underlying23, Nat.add_mul])
            rw [bytes25] at hwt
            simp only [List.length_map, reachBytes] at hwt
            refine ⟨(List.range len).map g, by simp; omega, smalls_of fun t ht => ?_, ?_⟩
            · obtain ⟨i, hi, rfl⟩ := List.mem_map.1 ht
              exact (hg i (List.mem_range.1 hi)).1
            · rw [rows_map]
              have hV := V_row (ρ := ρ) (N := N) hO (a := a) (sz := 7) (by decide) (fun i => (g i).cells) (fun i hi => (hg i hi).2) (fun i _ => Tree.pures_cells _) hlc hcm
              simpa using hV
        obtain ⟨ks, hk1, hk2, hkV⟩ := hkids
        simp only [reachBytes, Array.length_toList] at hws
        refine ⟨.mk k o m s ns ks p, ⟨by show s.data.size < _; omega, hn1, hk1, hn2, hk2⟩, rfl, fun j c v hc hv => ?_⟩
        match j with
        | 0 => simp [Tree.cells] at hc hv; subst hc; subst hv; exact .int _ _
        | 1 => simp [Tree.cells] at hc hv; subst hc; subst hv; exact .int _ _
        | 2 => simp [Tree.cells] at hc hv; subst hc; subst hv; exact .int _ _
        | 3 => simp [Tree.cells] at hc hv; subst hc; subst hv; exact .str _
        | 4 => simp [Tree.cells] at hc hv; subst hc; subst hv; exact hnV
        | 5 => simp [Tree.cells] at hc hv; subst hc; subst hv; exact hkV
        | 6 => simp [Tree.cells] at hc hv; subst hc; subst hv; exact .int _ _
        | j + 7 => simp [Tree.cells] at hc

end
end Go.Proofs.Ytceocfancfjdjaa
