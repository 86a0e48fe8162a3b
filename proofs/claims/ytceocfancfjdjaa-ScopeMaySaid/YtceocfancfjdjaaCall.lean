/- Calls: what a function's text does, told of the call; a call within a text. No condition. -/
import Derived.Test.YtceocfancfjdjaaMem3
namespace Go.Proofs.Ytceocfancfjdjaa
open Go Go.RowKit

inductive ARes where
  | ret (c : CV)
  | pan (c : CV)

/-- No frame: the blocks that are not one frame's alone. -/
def ASt (M : List AObj) : AS := { fr := [], loc := [], M := M, ds := [] }

def RRes (R : CV → Value → Prop) : ARes → Ending → Prop
  | .ret c, .returned v => R c v
  | .pan c, .panicked ch => ∃ v, R c v ∧ ch = [{ v, recovered := false }]
  | _, _ => False

/-- The function can be entered. -/
def Enter (f : FuncId) : Prop := ∃ fn, Try.prog.funcs[f]? = some fn ∧ (fn.name == "runtime.NumGoroutine") = false ∧ fn.body.isNone = false

/-- What a call does. -/
def ACalls (f : FuncId) (args : List CV) (M : List AObj) (QQ : ARes → List AObj → Prop) : Prop :=
  Enter f ∧ ∀ (ρ : Rho) (w : World) (cargs : Array Value), Rel ρ (ASt M) w → VL (VS ρ (ASt M) w) args cargs.toList →
    Calls Try.prog f cargs w fun e w' => ∃ r M' ρ', QQ r M' ∧ Rel ρ' (ASt M') w' ∧ RRes (VS ρ' (ASt M') w') r e ∧ Evol ρ (ASt M) w ρ' (ASt M') w'

theorem ACalls.mono {f : FuncId} {args : List CV} {M : List AObj} {QQ QQ' : ARes → List AObj → Prop} (h : ACalls f args M QQ) (hq : ∀ r M', QQ r M' → QQ' r M') : ACalls f args M QQ' :=
  ⟨h.1, fun ρ w cargs hr hv => (h.2 ρ w cargs hr hv).mono fun _ _ ⟨r, M', ρ', h1, h2⟩ => ⟨r, M', ρ', hq r M' h1, h2⟩⟩

section
variable {n : Nat} {ρ : Rho} {s : AS} {w : World} {a : Act}

theorem own_st {b : Nat} (h : Own ρ (ASt s.M) b) : Own ρ s b := by
  obtain ⟨o, x, hx, hb⟩ := h
  cases o with
  | l t => simp [AS.get, ASt, look] at hx
  | g i => exact ⟨.g i, x, hx, hb⟩

theorem ownF_st {b : Nat} (h : OwnF ρ (ASt s.M) b) : OwnF ρ s b := h.imp own_st id

theorem V.toSt {c : CV} {v : Value} (hv : VS ρ s w c v) (hn : noL c = true) : VS ρ (ASt s.M) w c v :=
  V.drop hv hn (fun _ _ hk => ⟨hk, rfl⟩) (fun _ _ hO => ⟨rfl, fun h => hO (ownF_st h)⟩)

theorem RObj.toSt {o : Nm} {x : AObj} (h : RObj ρ s w o x) (hn : x.noL = true) : RObj ρ (ASt s.M) w o x := by
  cases x with
  | box cs =>
    obtain ⟨cur, e, hb, hV⟩ := h
    exact ⟨cur, e, hb, hV.1, fun j c v hc hv => (hV.2 j c v hc hv).toSt (noLs_get hn hc)⟩
  | arr ver e sz cs =>
    obtain ⟨cur, hb, hl, hV, hcap⟩ := h
    exact ⟨cur, hb, hl, ⟨hV.1, fun j c v hc hv => (hV.2 j c v hc hv).toSt (noLs_get hn hc)⟩, hcap⟩
  | map es => exact h

theorem Rel.toSt (h : Rel ρ s w) : Rel ρ (ASt s.M) w := by
  refine ⟨fun o x hx => ?_, fun o o' x x' hx hx' e => ?_, h.fb, fun b hb hO => h.fo b hb (own_st hO), h.gl⟩
  · cases o with
    | l t => simp [AS.get, ASt, look] at hx
    | g i => exact (h.obj (.g i) x hx).toSt (h.gl i x hx)
  · cases o with
    | l t => simp [AS.get, ASt, look] at hx
    | g i =>
      cases o' with
      | l t => simp [AS.get, ASt, look] at hx'
      | g j => exact h.inj _ _ _ _ hx hx' e

/-! ### what a call hands back -/

/-- A value as it is when the frame is gone. -/
def Freeze (s : AS) (c c' : CV) : Prop := ∀ (n : Nat) (ρ : Rho) (w : World) (a : Act) (v : Value), Sim n ρ s w a → VS ρ s w c v → VS ρ (ASt s.M) w c' v

theorem Freeze.same {c : CV} (h : noL c = true) : Freeze s c c := fun _ _ _ _ _ _ hv => hv.toSt h

theorem Freeze.nil : Freeze s .nilslice (.islice [] 0) := by
  intro n ρ w a v _ hv
  cases hv
  exact .islice0 _ _

theorem Freeze.slice {t ver len sz : Nat} {e : TypeId} {cs : List CV} (hg : look s.loc t = some (.arr ver e sz cs)) (hp : pures cs = true) (hl : cs.length = len * sz) (hsz : 0 < sz) :
    Freeze s (.mslice (.l t) ver len) (.islice cs len) := by
  intro n ρ w a v hs hv
  cases hv
  obtain ⟨cur, hb, hfit, hV, hcap⟩ := hs.rel.obj (.l t) _ hg
  have hlc : len ≤ (ρ (.l t) ver).2 := by
    rw [hl, hcap.1] at hfit
    exact Nat.le_of_mul_le_mul_right hfit hsz
  refine V.islice cs len (ρ (.l t) ver).1 0 (ρ (.l t) ver).2 cur e (0, 0) hb ?_ hp (by omega) hlc hcap.2 ?_
  · rintro (⟨o', x', hx', hb'⟩ | hF)
    · cases o' with
      | l t' => simp [AS.get, ASt, look] at hx'
      | g i =>
        have := hs.rel.inj (.g i) (.l t) x' _ hx' hg hb'
        cases this
    · exact hs.rel.fo _ hF ⟨.l t, _, hg, rfl⟩
  · intro j c v hc hv
    have hj := (List.getElem?_eq_some_iff.1 hc).1
    refine (hV.2 j c v hc ?_).toSt (pureC_noL c (pures_get hp hc))
    rw [List.getElem?_take, if_pos hj]
    simpa using hv

/-- Lists of such. -/
def FreezeL (s : AS) : List CV → List CV → Prop
  | [], [] => True
  | c :: r, c' :: r' => Freeze s c c' ∧ FreezeL s r r'
  | _, _ => False

theorem FreezeL.get {cs cs' : List CV} (h : FreezeL s cs cs') : cs.length = cs'.length ∧ ∀ (j : Nat) (c' : CV), cs'[j]? = some c' → ∃ c, cs[j]? = some c ∧ Freeze s c c' := by
  induction cs generalizing cs' with
  | nil =>
    cases cs' with
    | nil => exact ⟨rfl, fun j c' h => by simp at h⟩
    | cons c' r' => exact h.elim
  | cons c r ih =>
    cases cs' with
    | nil => exact h.elim
    | cons c' r' =>
      obtain ⟨h1, h2⟩ := h
      have := ih h2
      refine ⟨by simp [this.1], fun j d hd => ?_⟩
      cases j with
      | zero => simp at hd; subst hd; exact ⟨c, by simp, h1⟩
      | succ j => simpa using this.2 j d (by simpa using hd)

theorem Freeze.agg {cs cs' : List CV} (h : FreezeL s cs cs') : Freeze s (.agg cs) (.agg cs') := by
  intro n ρ w a v hs hv
  cases hv with
  | agg _ vs hl hV =>
    refine .agg cs' vs (by rw [← h.get.1, hl]) (fun j c v hc hv => ?_)
    obtain ⟨c0, hc0, hf⟩ := h.get.2 j c hc
    exact hf n ρ w a v hs (hV j c0 v hc0 hv)

theorem Freeze.tuple {cs cs' : List CV} (h : FreezeL s cs cs') : Freeze s (.tuple cs) (.tuple cs') := by
  intro n ρ w a v hs hv
  cases hv with
  | tuple _ vs hl hV =>
    refine .tuple cs' vs (by rw [← h.get.1, hl]) (fun j c v hc hv => ?_)
    obtain ⟨c0, hc0, hf⟩ := h.get.2 j c hc
    exact hf n ρ w a v hs (hV j c0 v hc0 hv)

/-- What a function answers. -/
def ARet (fn : Func) (s : AS) (c : CV) : Prop := ∀ (n : Nat) (ρ : Rho) (w : World) (a : Act), Sim n ρ s w a → ∃ v, (results fn a.tmps).run Try.prog w = .ok v w ∧ VS ρ s w c v

theorem ARet.none {fn : Func} (h : fn.results = #[]) : ARet fn s (.tuple []) :=
  fun _ _ w a _ => ⟨_, results_none h a.tmps Try.prog w, .tuple [] #[] rfl (by simp)⟩

theorem ARet.one {fn : Func} {t : Nat} (h : fn.results = #[.tmp t]) : ARet fn s (s.tmp t) :=
  fun _ _ w a hs => ⟨_, results_tmp h a.tmps Try.prog w, hs.tmp t⟩

theorem ARet.two {fn : Func} {t u : Nat} (h : fn.results = #[.tmp t, .tmp u]) : ARet fn s (.tuple [s.tmp t, s.tmp u]) := by
  intro _ _ w a hs
  refine ⟨_, results_tmp2 h a.tmps Try.prog w, .tuple _ _ rfl (fun j c v hc hv => ?_)⟩
  match j with
  | 0 => simp at hc hv; subst hc; subst hv; simpa [Array.getD_eq_getD_getElem?] using hs.tmp t
  | 1 => simp at hc hv; subst hc; subst hv; simpa [Array.getD_eq_getD_getElem?] using hs.tmp u
  | j + 2 => simp at hc

theorem ARet.cell {fn : Func} {t ty : Nat} {c : CV} (h : fn.results = #[.cell t ty]) (hl : pstep s (.load ty (.tmp t)) = some c) : ARet fn s c := by
  intro n ρ w a hs
  obtain ⟨v, hr, hv⟩ := pstep_sound (o := { (default : Oper) with op := .load ty (.tmp t) }) hs hl
  refine ⟨v, ?_, hv⟩
  have hp : ∃ ad, a.tmps.getD t undef = .pointer (some ad) := by
    simp only [pstep, AS.ev] at hl
    have hx := hs.tmp t
    split at hl
    · rename_i row off hc; rw [hc] at hx
      generalize a.tmps.getD t undef = q at hx
      cases hx; exact ⟨_, rfl⟩
    · rename_i o off hc; rw [hc] at hx
      generalize a.tmps.getD t undef = q at hx
      cases hx; exact ⟨_, rfl⟩
    · cases hl
  obtain ⟨ad, had⟩ := hp
  have hr' : (loadVar ty ad).run Try.prog w = .ok v w := by
    simp only [execOp, Act.eval, had, Instr.loadAt, Instr.sureAddr] at hr
    rw [Sem.run_bind] at hr
    simp only [Sem.run_bind, Sem.run_pure, Result.andThen_ok] at hr
    cases hq : (loadVar ty ad).run Try.prog w with
    | ok v' w' => rw [hq] at hr; simp at hr; rw [hr.1, hr.2]
    | halt x w' => rw [hq] at hr; simp at hr
  have had' : a.tmps[t]?.getD undef = .pointer (some ad) := by rw [← Array.getD_eq_getD_getElem?]; exact had
  simp [results, h, had', asAddr, hr']

/-! ### entering -/

def frOf : Nat → List CV → List (Nat × CV)
  | _, [] => []
  | i, c :: r => (i, c) :: frOf (i + 1) r

theorem look_frOf : ∀ (l : List CV) (i t : Nat), look (frOf i l) t = if i ≤ t then l[t - i]? else none
  | [], i, t => by simp [frOf, look]
  | c :: r, i, t => by
    rw [frOf, look_cons, look_frOf r (i + 1) t]
    by_cases h : i = t
    · subst h; simp
    · by_cases h2 : i + 1 ≤ t
      · rw [if_neg h, if_pos h2, if_pos (by omega), show t - i = (t - (i + 1)) + 1 by omega]
        simp
      · rw [if_neg h, if_neg h2, if_neg (by omega)]

def bodyQ (fn : Func) (QQ : ARes → List AObj → Prop) : APost
  | .normal, s | .ret, s => s.ds = [] ∧ ∃ c c', ARet fn s c ∧ Freeze s c c' ∧ QQ (.ret c') s.M
  | .pan c, s => s.ds = [] ∧ noL c = true ∧ QQ (.pan c) s.M
  | .exit _, _ => False

theorem Evol.toSt {ρ0 : Rho} {s0 : AS} {w0 : World} {M : List AObj} (h : Evol ρ0 s0 w0 ρ s w) (h0 : s0.loc = []) (hM : s0.M = M) : Evol ρ0 (ASt M) w0 ρ (ASt s.M) w := by
  subst hM
  have hget : ∀ o, s0.get o = (ASt s0.M).get o := by
    intro o; cases o <;> simp [AS.get, ASt, h0, look]
  refine ⟨h.F, h.os, h.tape, h.output, h.size, fun b hb hO => h.frame b hb (fun ⟨o, x, hx, e⟩ => hO ⟨o, x, by rw [← hget]; exact hx, e⟩), fun b hb => ?_, fun i k hk => ?_⟩
  · rcases h.own b (own_st hb) with ⟨o, x, hx, e⟩ | h1
    · exact .inl ⟨o, x, by rw [← hget]; exact hx, e⟩
    · exact .inr h1
  · exact h.names i k hk

theorem ACalls.of_body {f : FuncId} {fn : Func} {c : Code} {args : List CV} {M : List AObj} {QQ : ARes → List AObj → Prop} (hf : Try.prog.funcs[f]? = some fn) (hb : fn.body = some c)
    (hname : (fn.name == "runtime.NumGoroutine") = false) (hlen : Nat.ble args.length fn.ntmps = true)
    (h : AWp Try.prog fn.ntmps c (bodyQ fn QQ) { fr := frOf 0 args, loc := [], M := M, ds := [] }) : ACalls f args M QQ := by
  refine ⟨⟨fn, hf, hname, by rw [hb]; rfl⟩, fun ρ w cargs hr hv => ?_⟩
  have hsz : args.length = cargs.size := by simpa using hv.1
  have hlen := Nat.le_of_ble_eq_true hlen
  have hsim : Sim fn.ntmps ρ { fr := frOf 0 args, loc := [], M := M, ds := [] } w { tmps := cargs ++ Array.replicate (fn.ntmps - cargs.size) undef, defers := [] } := by
    refine ⟨⟨hr.obj, hr.inj, hr.fb, hr.fo, hr.gl⟩, by simp; omega, fun t => ?_, rfl, by simp⟩
    show VS ρ (ASt M) w ((look (frOf 0 args) t).getD .undef) _
    rw [look_frOf, if_pos (Nat.zero_le t), Nat.sub_zero]
    by_cases ht : t < args.length
    · rw [List.getElem?_eq_getElem ht]
      have h1 := hv.2 t args[t] cargs[t] (List.getElem?_eq_getElem ht) (by rw [Array.getElem?_toList, Array.getElem?_eq_getElem (by omega)])
      have e : (cargs ++ Array.replicate (fn.ntmps - cargs.size) undef).getD t undef = cargs[t] := by
        rw [Array.getD_eq_getD_getElem?, Array.getElem?_append_left (by omega), Array.getElem?_eq_getElem (by omega)]
        rfl
      rw [e]
      exact h1
    · rw [List.getElem?_eq_none (by omega)]
      exact .undef _
  refine calls_of_wp hf hb (wp_mono (h ρ w _ hsim) ?_)
  rintro e a' w' ⟨ae, s', ρ', hex, hq, hs', hev⟩
  have hev' := hev.toSt rfl rfl
  have ret : ∀ (e : Exit), (e = .normal ∨ e = .ret) → (s'.ds = [] ∧ ∃ c c', ARet fn s' c ∧ Freeze s' c c' ∧ QQ (.ret c') s'.M) →
      bodyPost Try.prog fn (fun e w' => ∃ r M' ρ', QQ r M' ∧ Rel ρ' (ASt M') w' ∧ RRes (VS ρ' (ASt M') w') r e ∧ Evol ρ (ASt M) w ρ' (ASt M') w') e a' w' := by
    rintro e he ⟨hds, c, c', hret, hfz, hQ⟩
    have hd : a'.defers = [] := by
      have := hs'.defs.1
      rw [hds] at this
      exact List.eq_nil_of_length_eq_zero (by simpa using this.symm)
    obtain ⟨v, hrun, hv⟩ := hret _ ρ' w' a' hs'
    rcases he with rfl | rfl
    · exact ⟨hd, v, hrun, .ret c', s'.M, ρ', hQ, hs'.rel.toSt, hfz _ ρ' w' a' v hs' hv, hev'⟩
    · exact ⟨hd, v, hrun, .ret c', s'.M, ρ', hQ, hs'.rel.toSt, hfz _ ρ' w' a' v hs' hv, hev'⟩
  cases ae with
  | normal =>
    cases e <;> first | exact hex.elim | skip
    exact ret _ (.inl rfl) hq
  | exit i => exact hq.elim
  | ret =>
    cases e <;> first | exact hex.elim | skip
    exact ret _ (.inr rfl) hq
  | pan c =>
    cases e <;> first | exact hex.elim | skip
    obtain ⟨hds, hn, hQ⟩ := hq
    have hd : a'.defers = [] := by
      have := hs'.defs.1
      rw [hds] at this
      exact List.eq_nil_of_length_eq_zero (by simpa using this.symm)
    obtain ⟨v, hv, hch⟩ := hex
    exact ⟨hd, .pan c, s'.M, ρ', hQ, hs'.rel.toSt, ⟨v, hv.toSt hn, hch⟩, hev'⟩

end

/-! ### a call within a text -/
section
variable {n : Nat} {Q : APost} {s : AS} {o : Oper} {K : AS → Prop}

/-- The caller's own, seen by the callee as somebody else's. -/
def calleeRho (ρ : Rho) (s : AS) : Rho := { f := ρ.f, F := fun b => ρ.F b ∨ ∃ t x, look s.loc t = some x ∧ (ρ (.l t) x.ver).1 = b }

theorem calleeOwn {ρ : Rho} {s : AS} {b : Nat} : OwnF (calleeRho ρ s) (ASt s.M) b ↔ OwnF ρ s b := by
  constructor
  · rintro (⟨o, x, hx, e⟩ | hF | ⟨t, x, hx, e⟩)
    · cases o with
      | l t => simp [AS.get, ASt, look] at hx
      | g i => exact .inl ⟨.g i, x, hx, e⟩
    · exact .inr hF
    · exact .inl ⟨.l t, x, hx, e⟩
  · rintro (⟨o, x, hx, e⟩ | hF)
    · cases o with
      | l t => exact .inr (.inr ⟨t, x, hx, e⟩)
      | g i => exact .inl ⟨.g i, x, hx, e⟩
    · exact .inr (.inl hF)

/-- The caller's map of names behind the call. -/
def backRho (ρ ρ' : Rho) : Rho := { f := fun o k => match o with | .l _ => ρ o k | .g _ => ρ' o k, F := ρ.F }

theorem callBack {ρ ρ' : Rho} {w w' : World} {a : Act} {M' : List AObj} (hs : Sim n ρ s w a) (hr : Rel ρ' (ASt M') w') (hev : Evol (calleeRho ρ s) (ASt s.M) w ρ' (ASt M') w') :
    Sim n (backRho ρ ρ') { s with M := M' } w' a ∧ Evol ρ s w (backRho ρ ρ') { s with M := M' } w' ∧
    ∀ c v, VS ρ' (ASt M') w' c v → noL c = true → VS (backRho ρ ρ') { s with M := M' } w' c v := by
  have hFe : ρ'.F = (calleeRho ρ s).F := hev.F
  have ownB : ∀ b, OwnF (backRho ρ ρ') { s with M := M' } b ↔ OwnF ρ' (ASt M') b := by
    intro b
    constructor
    · rintro (⟨o, x, hx, e⟩ | hF)
      · cases o with
        | l t => exact .inr (by rw [hFe]; exact .inr ⟨t, x, hx, e⟩)
        | g i => exact .inl ⟨.g i, x, hx, e⟩
      · exact .inr (by rw [hFe]; exact .inl hF)
    · rintro (⟨o, x, hx, e⟩ | hF)
      · cases o with
        | l t => simp [AS.get, ASt, look] at hx
        | g i => exact .inl ⟨.g i, x, hx, e⟩
      · rw [hFe] at hF
        rcases hF with hF | ⟨t, x, hx, e⟩
        · exact .inr hF
        · exact .inl ⟨.l t, x, hx, e⟩
  have ownOld : ∀ b, OwnF (backRho ρ ρ') { s with M := M' } b → OwnF ρ s b ∨ w.heap.size ≤ b := by
    intro b hb
    rcases (ownB b).1 hb with h1 | h1
    · rcases hev.own b h1 with h2 | h2
      · exact .inl (calleeOwn.1 (.inl h2))
      · exact .inr h2
    · rw [hFe] at h1
      exact .inl (calleeOwn.1 (.inr h1))
  have back : ∀ c v, VS ρ s w c v → VS (backRho ρ ρ') { s with M := M' } w' c v := by
    intro c v hv
    refine V.mono hv (fun o k hk => ?_) (fun b hb hO => ⟨?_, fun hO' => ?_⟩)
    · cases o with
      | l t => exact ⟨hk, rfl⟩
      | g i =>
        have := hev.names i k hk
        exact ⟨this.1, this.2⟩
    · exact hev.frame b hb (fun h => hO (calleeOwn.1 (.inl h)))
    · rcases ownOld b hO' with h1 | h1
      · exact hO h1
      · omega
  have forth : ∀ c v, VS ρ' (ASt M') w' c v → noL c = true → VS (backRho ρ ρ') { s with M := M' } w' c v := by
    intro c v hv hn
    refine V.drop hv hn (fun i k hk => ⟨hk, rfl⟩) (fun b _ hO => ⟨rfl, fun hO' => hO ((ownB b).1 hO')⟩)
  have keepL : ∀ t x, look s.loc t = some x → w'.heap[(ρ (.l t) x.ver).1]? = w.heap[(ρ (.l t) x.ver).1]? := by
    intro t x hx
    refine hev.frame _ (hs.rel.own_ltO ⟨.l t, x, hx, rfl⟩) ?_
    rintro ⟨o', x', hx', e⟩
    cases o' with
    | l t' => simp [AS.get, ASt, look] at hx'
    | g i =>
      have := hs.rel.inj (.g i) (.l t) x' x hx' hx e
      cases this
  refine ⟨⟨⟨fun o x hx => ?_, fun o1 o2 x1 x2 h1 h2 e => ?_, fun b hb => ?_, fun b hb hO => ?_, fun i x hx => hr.gl i x hx⟩, hs.size, fun t => back _ _ (hs.tmp t), hs.defs.1, fun j c d hc hd => ?_⟩, ?_, forth⟩
  · cases o with
    | l t =>
      have hw := keepL t x hx
      have hold := hs.rel.obj (.l t) x hx
      cases x with
      | box cs =>
        obtain ⟨cur, e, hb, hV⟩ := hold
        exact ⟨cur, e, hw.trans hb, hV.1, fun j c v hc hv => back _ _ (hV.2 j c v hc hv)⟩
      | arr ver e sz cs =>
        obtain ⟨cur, hb, hl, hV, hcap⟩ := hold
        exact ⟨cur, hw.trans hb, hl, ⟨hV.1, fun j c v hc hv => back _ _ (hV.2 j c v hc hv)⟩, hcap⟩
      | map es =>
        obtain ⟨mes, cl, hb, hl, hV⟩ := hold
        exact ⟨mes, cl, hw.trans hb, hl, hV⟩
    | g i =>
      have hold := hr.obj (.g i) x hx
      have hn := hr.gl i x hx
      cases x with
      | box cs =>
        obtain ⟨cur, e, hb, hV⟩ := hold
        exact ⟨cur, e, hb, hV.1, fun j c v hc hv => forth _ _ (hV.2 j c v hc hv) (noLs_get hn hc)⟩
      | arr ver e sz cs =>
        obtain ⟨cur, hb, hl, hV, hcap⟩ := hold
        exact ⟨cur, hb, hl, ⟨hV.1, fun j c v hc hv => forth _ _ (hV.2 j c v hc hv) (noLs_get hn hc)⟩, hcap⟩
      | map es => exact hold
  · have cross : ∀ t x i x', look s.loc t = some x → M'[i]? = some x' → (ρ (.l t) x.ver).1 = (ρ' (.g i) x'.ver).1 → False := by
      intro t x i x' hx hx' e
      refine hr.fo (ρ (.l t) x.ver).1 (by rw [hFe]; exact .inr ⟨t, x, hx, rfl⟩) ⟨.g i, x', hx', e.symm⟩
    cases o1 with
    | l t =>
      cases o2 with
      | l t' => exact hs.rel.inj _ _ _ _ h1 h2 e
      | g i => exact (cross t x1 i x2 h1 h2 e).elim
    | g i =>
      cases o2 with
      | l t' => exact (cross t' x2 i x1 h2 h1 e.symm).elim
      | g j => exact hr.inj _ _ _ _ h1 h2 e
  · exact Nat.lt_of_lt_of_le (hs.rel.fb b hb) hev.size
  · obtain ⟨o, x, hx, e⟩ := hO
    cases o with
    | l t => exact hs.rel.fo b hb ⟨.l t, x, hx, e⟩
    | g i => exact hr.fo b (by rw [hFe]; exact .inl hb) ⟨.g i, x, hx, e⟩
  · obtain ⟨f, cap, vs, h1, h2, h3⟩ := hs.defs.2 j c d hc hd
    exact ⟨f, cap, vs, h1, h2, h3.1, fun j c v hc hv => back _ _ (h3.2 j c v hc hv)⟩
  · refine ⟨rfl, hev.os, hev.tape, hev.output, hev.size, fun b hb hO => hev.frame b hb (fun h => hO (own_st h)), fun b hb => ?_, fun i k hk => ?_⟩
    · obtain ⟨o, x, hx, e⟩ := hb
      cases o with
      | l t => exact .inl ⟨.l t, x, hx, e⟩
      | g i =>
        rcases hev.own b ⟨.g i, x, hx, e⟩ with h1 | h1
        · exact .inl (own_st h1)
        · exact .inr h1
    · exact hev.names i k hk

theorem AOp.call {c : Call} {x : Operand} {f : FuncId} {cap args : List CV} {QQ : ARes → List AObj → Prop} (ho : o.op = .call c) (hc : c.callee = .value x) (hx : s.ev x = .func f cap)
    (hargs : c.args.toList.map s.ev ++ cap = args) (hn : noLs args = true) (hcall : ACalls f args s.M QQ) (hd : dstOk n o.dst = true)
    (kr : ∀ c M', QQ (.ret c) M' → noL c = true ∧ K (({ s with M := M' } : AS).put o.dst c)) (kp : ∀ c M', QQ (.pan c) M' → noL c = true ∧ Q (.pan c) { s with M := M' }) :
    AOp Try.prog n o K Q s := by
  intro ρ w a hs
  obtain ⟨⟨fn, hf, hname, hbody⟩, hcalls⟩ := hcall
  have hxv := hs.ev x
  rw [hx] at hxv
  generalize hva : a.eval x = va at hxv
  cases hxv with
  | func _ _ vs hvl hV =>
    have hargsV : VL (VS ρ s w) args ((c.args.map a.eval) ++ vs).toList := by
      rw [← hargs, Array.toList_append]
      refine VL.append ⟨by simp, fun j d v hd hv => ?_⟩ ⟨by simpa using hvl, fun j d v hd hv => hV j d v hd (by simpa using hv)⟩
      simp only [List.getElem?_map, Array.getElem?_toList] at hd
      simp only [Array.getElem?_toList, Array.getElem?_map] at hv
      cases hq : c.args[j]? with
      | none => simp [hq] at hd
      | some y =>
        simp [hq] at hd hv
        subst hd; subst hv
        exact hs.ev y
    have hrel : Rel (calleeRho ρ s) (ASt s.M) w := by
      have h0 := hs.rel.toSt
      refine ⟨fun o' y hy => ?_, h0.inj, fun b hb => ?_, fun b hb hO => ?_, h0.gl⟩
      · cases o' with
        | l t => simp [AS.get, ASt, look] at hy
        | g i =>
          have hold := hs.rel.obj (.g i) y hy
          have hn' := hs.rel.gl i y hy
          have tr : ∀ c v, VS ρ s w c v → noL c = true → VS (calleeRho ρ s) (ASt s.M) w c v := fun c v hv hnc =>
            V.drop hv hnc (fun _ _ hk => ⟨hk, rfl⟩) (fun b _ hO => ⟨rfl, fun h => hO (calleeOwn.1 h)⟩)
          cases y with
          | box cs =>
            obtain ⟨cur, e, hb, hV⟩ := hold
            exact ⟨cur, e, hb, hV.1, fun j c v hc hv => tr _ _ (hV.2 j c v hc hv) (noLs_get hn' hc)⟩
          | arr ver e sz cs =>
            obtain ⟨cur, hb, hl, hV, hcap⟩ := hold
            exact ⟨cur, hb, hl, ⟨hV.1, fun j c v hc hv => tr _ _ (hV.2 j c v hc hv) (noLs_get hn' hc)⟩, hcap⟩
          | map es => exact hold
      · exact hs.rel.own_lt (calleeOwn.1 (.inr hb))
      · rcases hb with hb | ⟨t, y, hy, e⟩
        · exact hs.rel.fo b hb (own_st hO)
        · obtain ⟨o', y', hy', e'⟩ := hO
          cases o' with
          | l t' => simp [AS.get, ASt, look] at hy'
          | g i =>
            have := hs.rel.inj (.g i) (.l t) y' y hy' hy (e'.trans e.symm)
            cases this
    have hargs2 : VL (VS (calleeRho ρ s) (ASt s.M) w) args ((c.args.map a.eval) ++ vs).toList :=
      ⟨hargsV.1, fun j d v hd hv => V.drop (hargsV.2 j d v hd hv) (noLs_get hn hd) (fun _ _ hk => ⟨hk, rfl⟩) (fun b _ hO => ⟨rfl, fun h => hO (calleeOwn.1 h)⟩)⟩
    have hgo := hcalls (calleeRho ρ s) w _ hrel hargs2
    unfold Oper.wp
    have hrun : (execOp a.eval o).run Try.prog w = .ok (.enter f ((c.args.map a.eval) ++ vs)) w := by
      have h1 : ¬ fn.name = "runtime.NumGoroutine" := by simpa using hname
      have h2 : ¬ fn.body = none := by intro e; simp [e] at hbody
      simp [execOp, ho, resolve, hc, hva, Deferred.ofValue, invoke, callFunc, hf, h1, h2]
    rw [hrun]
    refine hgo.mono ?_
    rintro e w' ⟨r, M', ρ', hq, hr', hres, hev⟩
    obtain ⟨hsim, hevol, hV'⟩ := callBack hs hr' hev
    cases r with
    | ret c' =>
      cases e <;> first | exact hres.elim | skip
      have hk := kr c' M' hq
      exact ⟨_, _, hk.2, hsim.put hd (hV' _ _ hres hk.1), hevol.put _ _⟩
    | pan c' =>
      cases e <;> first | exact hres.elim | skip
      have hk := kp c' M' hq
      obtain ⟨v, hv, rfl⟩ := hres
      exact ⟨.pan c', _, _, ⟨v, hV' _ _ hv hk.1, rfl⟩, hk.2, hsim, hevol⟩

theorem AOp.panic {x : Operand} {c : CV} (ho : o.op = .panic x) (hx : s.ev x = .iface 44 c) (k : Q (.pan (.iface 44 c)) s) : AOp Try.prog n o K Q s := by
  intro ρ w a hs
  have hv := hs.ev x
  rw [hx] at hv
  generalize hva : a.eval x = va at hv
  cases hv with
  | iface _ _ v hvc =>
    unfold Oper.wp
    have hrun : (execOp a.eval o).run Try.prog w = .halt (.panic (.iface 44 v)) w := by
      simp [execOp, ho, hva, Instr.panic, goPanic]
    rw [hrun]
    exact ⟨.pan (.iface 44 c), s, ρ, ⟨_, .iface 44 c v hvc, rfl⟩, k, hs, Evol.refl ρ s w⟩

end
end Go.Proofs.Ytceocfancfjdjaa
