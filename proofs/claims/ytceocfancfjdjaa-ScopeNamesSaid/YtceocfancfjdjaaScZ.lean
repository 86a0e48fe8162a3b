/- More rules: maps, calls that turn something or panic, frames that drop what is theirs alone. No condition. -/
import Derived.Test.YtceocfancfjdjaaDraw3
import Derived.Test.YtceocfancfjdjaaMem4
namespace Go.Proofs.Ytceocfancfjdjaa
open Go Go.RowKit

def noLfr : List (Nat × CV) → Bool
  | [] => true
  | (_, c) :: r => noL c && noLfr r

theorem noLfr_tmp {fr : List (Nat × CV)} (h : noLfr fr = true) (t : Nat) : noL ((look fr t).getD .undef) = true := by
  induction fr with
  | nil => rfl
  | cons p r ih =>
    obtain ⟨k, c⟩ := p
    simp only [noLfr, Bool.and_eq_true] at h
    rw [look_cons]
    split
    · exact h.1
    · exact ih h.2

theorem Sim.forget {n : Nat} {ρ : Rho} {fr : List (Nat × CV)} {loc : List (Nat × AObj)} {M : List AObj} {w : World} {a : Act} (hs : Sim n ρ { fr := fr, loc := loc, M := M, ds := [] } w a)
    (h : noLfr fr = true) : Sim n ρ { fr := fr, loc := [], M := M, ds := [] } w a := by
  have hr := hs.rel.toSt
  refine ⟨⟨hr.obj, hr.inj, hr.fb, hr.fo, hr.gl⟩, hs.size, fun t => ?_, ?_⟩
  · exact (hs.tmp t).toSt (noLfr_tmp h t)
  · exact ⟨hs.defs.1, fun j c d hc _ => by simp at hc⟩

theorem Evol.forget {ρ ρ' : Rho} {fr : List (Nat × CV)} {loc : List (Nat × AObj)} {M : List AObj} {w w' : World} {s' : AS} (h : Evol ρ { fr := fr, loc := [], M := M, ds := [] } w ρ' s' w') :
    Evol ρ { fr := fr, loc := loc, M := M, ds := [] } w ρ' s' w' := by
  have ho : ∀ b, Own ρ { fr := fr, loc := [], M := M, ds := [] } b → Own ρ { fr := fr, loc := loc, M := M, ds := [] } b := by
    rintro b ⟨o, x, hx, e⟩
    cases o with
    | l t => simp [AS.get, look] at hx
    | g i => exact ⟨.g i, x, hx, e⟩
  refine ⟨h.F, h.os, h.tape, h.output, h.size, fun b hb hO => h.frame b hb (fun h1 => hO (ho b h1)), fun b hb => (h.own b hb).imp (ho b) id, fun i k hk => ?_⟩
  obtain ⟨x, hx, hle⟩ := hk
  exact h.names i k ⟨x, hx, hle⟩

section
variable {P : Program} {n : Nat} {c : Code} {Q : APost} {fr fr' : List (Nat × CV)} {loc : List (Nat × AObj)} {M : List AObj}

/-- What is this frame's alone may be forgotten where nothing speaks of it. -/
theorem AWp.fresh (h : Sub fr fr') (hn : noLfr fr' = true) (k : AWp P n c Q { fr := fr', loc := [], M := M, ds := [] }) : AWp P n c Q { fr := fr, loc := loc, M := M, ds := [] } := by
  refine AWp.mask h ?_
  intro ρ w a hs
  exact wp_mono (k ρ w a (hs.forget hn)) fun _ _ _ ⟨ae, s', ρ', h1, h2, h3, h4⟩ => ⟨ae, s', ρ', h1, h2, h3, h4.forget⟩

theorem AWpL.fresh (h : Sub fr fr') (hn : noLfr fr' = true) (k : AWpL P n c Q { fr := fr', loc := [], M := M, ds := [] }) : AWpL P n c Q { fr := fr, loc := loc, M := M, ds := [] } := by
  refine AWpL.mask h ?_
  intro ρ w a hs b kk cs
  obtain ⟨e, a', w', ⟨ae, s', ρ', h1, h2, h3, h4⟩, harr⟩ := k ρ w a (hs.forget hn) b kk cs
  exact ⟨e, a', w', ⟨ae, s', ρ', h1, h2, h3, h4.forget⟩, harr⟩

end

section
variable {n : Nat} {Q : APost} {o : Oper} {K : AS → Prop} {fr : List (Nat × CV)} {loc : List (Nat × AObj)} {M : List AObj} {ds : List CV} {d : Nat}

theorem W.makeMap {t : TypeId} (ho : o.op = .makeMap t none) (hdst : o.dst = some d) (hd : Nat.blt d n = true) (k : K { fr := (d, .map (.g M.length)) :: fr, loc := loc, M := M ++ [.map []], ds := ds }) :
    AOp Try.prog n o K Q { fr := fr, loc := loc, M := M, ds := ds } := AOp.makeMap ho (by rw [hdst]; exact hd) (by rw [hdst]; exact k)

theorem W.lookup {x y : Operand} {i : Nat} {es : List (ByteArray × Int)} {b : ByteArray} {r : Option Int} (ho : o.op = .lookup 48 x y true) (hx : AS.ev { fr := fr, loc := loc, M := M, ds := ds } x = .map (.g i))
    (hg : M[i]? = some (.map es)) (hy : AS.ev { fr := fr, loc := loc, M := M, ds := ds } y = .str b) (hdst : o.dst = some d) (hd : Nat.blt d n = true) (hm : mget es b = r)
    (k : K { fr := (d, .tuple [.int .i64 (r.getD 0), .bool r.isSome]) :: fr, loc := loc, M := M, ds := ds }) : AOp Try.prog n o K Q { fr := fr, loc := loc, M := M, ds := ds } := by
  subst hm
  exact AOp.lookup ho (.inl ⟨hx, hg⟩) hy (by rw [hdst]; exact hd) (by rw [hdst]; exact k)

theorem W.lookupNil {x y : Operand} {b : ByteArray} (ho : o.op = .lookup 48 x y true) (hx : AS.ev { fr := fr, loc := loc, M := M, ds := ds } x = .nilmap)
    (hy : AS.ev { fr := fr, loc := loc, M := M, ds := ds } y = .str b) (hdst : o.dst = some d) (hd : Nat.blt d n = true)
    (k : K { fr := (d, .tuple [.int .i64 0, .bool false]) :: fr, loc := loc, M := M, ds := ds }) : AOp Try.prog n o K Q { fr := fr, loc := loc, M := M, ds := ds } :=
  AOp.lookup (es := []) (nm := .g 0) ho (.inr ⟨hx, rfl⟩) hy (by rw [hdst]; exact hd) (by rw [hdst]; exact k)

theorem W.mapNew {x y z : Operand} {i : Nat} {es : List (ByteArray × Int)} {b : ByteArray} {v : Int} (ho : o.op = .mapUpdate 48 x y z) (hdst : o.dst = none) (hx : AS.ev { fr := fr, loc := loc, M := M, ds := ds } x = .map (.g i))
    (hg : M[i]? = some (.map es)) (hy : AS.ev { fr := fr, loc := loc, M := M, ds := ds } y = .str b) (hz : AS.ev { fr := fr, loc := loc, M := M, ds := ds } z = .int .i64 v) (hno : mget es b = none)
    (k : K { fr := fr, loc := loc, M := M.set i (.map (es ++ [(b, v)])), ds := ds }) : AOp Try.prog n o K Q { fr := fr, loc := loc, M := M, ds := ds } :=
  AOp.mapNew ho hdst hx hg hy hz hno k

/-- How many entries. -/
theorem W.lenMap {x : Operand} {i : Nat} {es : List (ByteArray × Int)} (ho : o.op = .call { callee := .builtin .len, args := #[x], argTypes := #[48] }) (hx : AS.ev { fr := fr, loc := loc, M := M, ds := ds } x = .map (.g i))
    (hg : M[i]? = some (.map es)) (hdst : o.dst = some d) (hd : Nat.blt d n = true) (k : K { fr := (d, .int .i64 (es.length : Int)) :: fr, loc := loc, M := M, ds := ds }) :
    AOp Try.prog n o K Q { fr := fr, loc := loc, M := M, ds := ds } := by
  refine AOp.pure (c := .int .i64 (es.length : Int)) ?_ (by rw [hdst]; exact hd) (by rw [hdst]; exact k)
  rw [ho]
  simp only [pstep, callStep, lenOf, tlen, hx, AS.get, hg]

/-- A call that answers v and leaves the blocks M1. -/
theorem W.callR {c : Call} {x : Operand} {f : FuncId} {cap args : List CV} {v : CV} {M1 : List AObj} (ho : o.op = .call c) (hc : c.callee = .value x) (hx : AS.ev { fr := fr, loc := loc, M := M, ds := ds } x = .func f cap)
    (hargs : c.args.toList.map (AS.ev { fr := fr, loc := loc, M := M, ds := ds }) ++ cap = args) (hdst : o.dst = some d) (hcall : ACalls f args M (fun r M' => r = .ret v ∧ M' = M1))
    (hn : noLs args = true) (hv : noL v = true) (hd : Nat.blt d n = true) (k : K { fr := (d, v) :: fr, loc := loc, M := M1, ds := ds }) :
    AOp Try.prog n o K Q { fr := fr, loc := loc, M := M, ds := ds } := by
  refine AOp.call ho hc hx hargs hn hcall (by rw [hdst]; exact hd) ?_ ?_
  · rintro c M' ⟨h1, rfl⟩
    cases h1
    rw [hdst]
    exact ⟨hv, k⟩
  · rintro c M' ⟨h1, _⟩
    cases h1

/-- A call that panics. -/
theorem W.callP {c : Call} {x : Operand} {f : FuncId} {cap args : List CV} {v : CV} {PP : List AObj → Prop} (ho : o.op = .call c) (hc : c.callee = .value x) (hx : AS.ev { fr := fr, loc := loc, M := M, ds := ds } x = .func f cap)
    (hargs : c.args.toList.map (AS.ev { fr := fr, loc := loc, M := M, ds := ds }) ++ cap = args) (hd : dstOk n o.dst = true) (hcall : ACalls f args M (fun r M' => r = .pan v ∧ PP M'))
    (hn : noLs args = true) (hv : noL v = true) (k : ∀ M', PP M' → Q (.pan v) { fr := fr, loc := loc, M := M', ds := ds }) :
    AOp Try.prog n o K Q { fr := fr, loc := loc, M := M, ds := ds } := by
  refine AOp.call ho hc hx hargs hn hcall hd ?_ ?_
  · rintro c M' ⟨h1, _⟩
    cases h1
  · rintro c M' ⟨h1, h2⟩
    cases h1
    exact ⟨hv, k M' h2⟩

theorem W.panic {x : Operand} {c : CV} (ho : o.op = .panic x) (hx : AS.ev { fr := fr, loc := loc, M := M, ds := ds } x = .iface 44 c) (k : Q (.pan (.iface 44 c)) { fr := fr, loc := loc, M := M, ds := ds }) :
    AOp Try.prog n o K Q { fr := fr, loc := loc, M := M, ds := ds } := AOp.panic ho hx k

end

theorem bodyQ.none {fn : Func} {fr : List (Nat × CV)} {loc : List (Nat × AObj)} {M : List AObj} {QQ : ARes → List AObj → Prop} (hr : fn.results = #[]) (hq : QQ (.ret (.tuple [])) M) :
    bodyQ fn QQ .normal { fr := fr, loc := loc, M := M, ds := [] } := ⟨rfl, _, _, ARet.none hr, Freeze.same rfl, hq⟩

theorem bodyQ.pan {fn : Func} {fr : List (Nat × CV)} {loc : List (Nat × AObj)} {M : List AObj} {c : CV} {QQ : ARes → List AObj → Prop} (hn : noL c = true) (hq : QQ (.pan c) M) :
    bodyQ fn QQ (.pan c) { fr := fr, loc := loc, M := M, ds := [] } := ⟨rfl, hn, hq⟩

end Go.Proofs.Ytceocfancfjdjaa
