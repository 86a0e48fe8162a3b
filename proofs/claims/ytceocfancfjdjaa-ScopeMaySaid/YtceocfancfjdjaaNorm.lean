/- A slice that is nil, told as an empty one, wherever it stands; the tree that the laws try. No condition. -/
import Derived.Test.YtceocfancfjdjaaSameU
namespace Go.Proofs.Ytceocfancfjdjaa
open Go Go.RowKit

mutual
def norm : CV → CV
  | .nilslice => .islice [] 0
  | .agg cs => .agg (norms cs)
  | .islice row len => .islice (norms row) len
  | .int k n => .int k n
  | .bool b => .bool b
  | .str s => .str s
  | .undef => .undef
  | .ptr o v f => .ptr o v f
  | .iptr r f => .iptr r f
  | .mslice o v l => .mslice o v l
  | .map o => .map o
  | .nilmap => .nilmap
  | .func f c => .func f c
  | .nilIface => .nilIface
  | .iface t c => .iface t c
  | .tuple cs => .tuple cs
def norms : List CV → List CV
  | [] => []
  | c :: r => norm c :: norms r
end

theorem norms_map (l : List CV) : norms l = l.map norm := by
  induction l with
  | nil => rfl
  | cons c r ih => simp [norms, ih]

mutual
theorem norm_pure : ∀ (c : CV), pureC (norm c) = pureC c
  | .agg cs => by simp only [norm, pureC]; exact norms_pure cs
  | .nilslice => rfl
  | .islice _ _ => rfl
  | .int _ _ => rfl
  | .bool _ => rfl
  | .str _ => rfl
  | .undef => rfl
  | .ptr _ _ _ => rfl
  | .iptr _ _ => rfl
  | .mslice _ _ _ => rfl
  | .map _ => rfl
  | .nilmap => rfl
  | .func _ _ => rfl
  | .nilIface => rfl
  | .iface _ _ => rfl
  | .tuple _ => rfl
theorem norms_pure : ∀ (cs : List CV), pures (norms cs) = pures cs
  | [] => rfl
  | c :: r => by simp only [norms, pures, norm_pure c, norms_pure r]
end

theorem norms_get {l : List CV} {j : Nat} {c : CV} (h : (norms l)[j]? = some c) : ∃ c0, l[j]? = some c0 ∧ c = norm c0 := by
  rw [norms_map, List.getElem?_map] at h
  cases hq : l[j]? with
  | none => rw [hq] at h; cases h
  | some c0 => rw [hq] at h; cases h; exact ⟨c0, rfl, rfl⟩

theorem V.norm {ρ : Rho} {w : World} {O : Nat → Prop} {N : Nm → Nat → Prop} {c : CV} {v : Value} (h : V ρ w O N c v) : V ρ w O N (norm c) v := by
  induction h with
  | int k n => exact .int k n
  | bool b => exact .bool b
  | str s => exact .str s
  | undef v => exact .undef v
  | ptr o ver off hN => exact .ptr o ver off hN
  | iptr row off b off0 cur ty fz hb hO hn hs hV _ => exact .iptr row off b off0 cur ty fz hb hO hn hs hV
  | nilslice => exact .islice0 _ _
  | islice0 a cap => exact .islice0 a cap
  | islice row len b off0 cap cur ty fz hb hO hn hs hl hc hV ih =>
    refine .islice _ len b off0 cap cur ty fz hb hO (by rw [norms_pure]; exact hn) (by rw [norms_map, List.length_map]; exact hs) hl hc (fun j c v hj hv => ?_)
    obtain ⟨c0, h0, rfl⟩ := norms_get hj
    exact ih j c0 v h0 hv
  | mslice o ver len hN => exact .mslice o ver len hN
  | map o hN => exact .map o hN
  | nilmap => exact .nilmap
  | func f cs vs hl hV _ => exact .func f cs vs hl hV
  | nilIface => exact .nilIface
  | iface t c v h _ => exact .iface t c v h
  | agg cs vs hl hV ih =>
    refine .agg _ vs (by rw [norms_map, List.length_map]; exact hl) (fun j c v hj hv => ?_)
    obtain ⟨c0, h0, rfl⟩ := norms_get hj
    exact ih j c0 v h0 hv
  | tuple cs vs hl hV _ => exact .tuple cs vs hl hV

theorem ACalls.norm {f : FuncId} {args args' : List CV} {M : List AObj} {QQ : ARes → List AObj → Prop} (h : ACalls f args' M QQ) (he : norms args = args') : ACalls f args M QQ := by
  subst he
  refine ⟨h.1, fun ρ w cargs hr hv => h.2 ρ w cargs hr ⟨?_, fun j c v hc hcv => ?_⟩⟩
  · rw [norms_map, List.length_map]; exact hv.1
  · obtain ⟨c0, h0, rfl⟩ := norms_get hc
    exact (hv.2 j c0 v h0 hcv).norm

def workT : Tree := .mk 29 0 0 nothing [] [.mk 21 0 0 ⟨#[97]⟩ [] [.mk 8 0 0 nothing [⟨#[98]⟩] [.mk 31 0 0 nothing [] [.mk 10 1 0 nothing [] [.mk 5 0 0 ⟨#[97]⟩ [] [] 0, .mk 5 0 0 ⟨#[98]⟩ [] [] 0] 0] 0] 0] 0] 0

theorem workT_small : workT.small := by
  simp [workT, Tree.small, smalls, nothing]
  decide
theorem workT_roomy : workT.roomy := by
  simp [workT, Tree.roomy, Tree.roomy.roomies]

def workFs : List FnR := [⟨0, 0, some [.mk 34 0 0 nothing [] [nameN 20 1] 0]⟩, ⟨1, 1, some [.mk 31 0 0 nothing [] [.mk 10 1 0 nothing [] [nameN 19 0, nameN 18 0] 0] 0]⟩]

theorem workT_check : checkT workT = 0 := by
  decide +kernel
theorem workT_resolve : resolveT workT = ((1, workFs), 0, 0) := by
  rfl

end Go.Proofs.Ytceocfancfjdjaa
/- Long regions: what guards look at, told once. No condition. -/
namespace Go.Proofs.Ytceocfancfjdjaa
open Go Go.RowKit

section
variable {P : Program} {n : Nat} {ops : Array Oper} {Q : APost} {s : AS} {o : Oper} {rest : List Oper}

theorem AWp.regionV {id : Nat} {l : List Oper} (h : ∀ ops : Array Oper, (∀ j : Nat, (ops[j]?).bind Oper.dst = (l[j]?).bind Oper.dst) → AOps P n ops Q l s) : AWp P n (.region id l.toArray false) Q s :=
  AWp.region (h l.toArray (fun j => by rw [List.getElem?_toArray]))

theorem AOps.takeV {j t : Nat} {b : Bool} (hg : o.guard = some (j, b)) (hd : (ops[j]?).bind Oper.dst = some t) (hv : s.tmp t = .bool b) (h : AOp P n o (AOps P n ops Q rest) Q s) : AOps P n ops Q (o :: rest) s :=
  AOps.take hg (by have e : gval ops s j = s.tmp t := by { unfold gval; show (match (ops[j]?).bind Oper.dst with | some t => s.tmp t | none => .undef) = _; rw [hd] }; exact e.trans hv) h

end
end Go.Proofs.Ytceocfancfjdjaa
