/- Rules for blocks that many frames know: stores, indexes, lengths. No condition. -/
import Derived.Test.YtceocfancfjdjaaScX
namespace Go.Proofs.Ytceocfancfjdjaa
open Go Go.RowKit

section
variable {n : Nat} {Q : APost} {o : Oper} {K : AS → Prop} {fr : List (Nat × CV)} {loc : List (Nat × AObj)} {M : List AObj} {ds : List CV} {d : Nat}

theorem W.storeG {t : TypeId} {p x : Operand} {i off k : Nat} {b : Bool} {cs ys cs' : List CV} (ho : o.op = .store t p x) (hdst : o.dst = none)
    (hp : AS.ev { fr := fr, loc := loc, M := M, ds := ds } p = .ptr (.g i) 0 off) (hg : M[i]? = some (.box cs)) (htk : tk t = some (b, k))
    (hys : (AS.ev { fr := fr, loc := loc, M := M, ds := ds } x).cells = ys) (hf : flat (AS.ev { fr := fr, loc := loc, M := M, ds := ds } x) = true) (hk : ys.length = k) (hset : setK cs off ys = some cs')
    (hgl : noLs cs' = true) (kk : K { fr := fr, loc := loc, M := M.set i (.box cs'), ds := ds }) : AOp Try.prog n o K Q { fr := fr, loc := loc, M := M, ds := ds } :=
  AOp.store ho hdst hp hg htk hys hf hk hset hgl kk

theorem W.storeGA {t : TypeId} {p x : Operand} {i ver off k sz : Nat} {e : TypeId} {b : Bool} {cs ys cs' : List CV} (ho : o.op = .store t p x) (hdst : o.dst = none)
    (hp : AS.ev { fr := fr, loc := loc, M := M, ds := ds } p = .ptr (.g i) ver off) (hg : M[i]? = some (.arr ver e sz cs)) (htk : tk t = some (b, k))
    (hys : (AS.ev { fr := fr, loc := loc, M := M, ds := ds } x).cells = ys) (hf : flat (AS.ev { fr := fr, loc := loc, M := M, ds := ds } x) = true) (hk : ys.length = k) (hset : setK cs off ys = some cs')
    (hgl : noLs cs' = true) (kk : K { fr := fr, loc := loc, M := M.set i (.arr ver e sz cs'), ds := ds }) : AOp Try.prog n o K Q { fr := fr, loc := loc, M := M, ds := ds } :=
  AOp.storeA ho hdst hp hg htk hys hf hk hset hgl kk

/-- An operation that reads; the head of what it gives may stand open. -/
theorem W.pureR {c : CV} (hdst : o.dst = some d) (h : pstep { fr := fr, loc := loc, M := M, ds := ds } o.op = some c) (hd : Nat.blt d n = true)
    (k : K { fr := (d, c) :: fr, loc := loc, M := M, ds := ds }) : AOp Try.prog n o K Q { fr := fr, loc := loc, M := M, ds := ds } :=
  AOp.pure h (by rw [hdst]; exact hd) (by rw [hdst]; exact k)

/-- An element's place in a row that can turn. -/
theorem W.indexM {t z len ver : Nat} {x i : Operand} {nm : Nm} {j : Int} (ho : o.op = .indexAddr t x i) (ht : tel t = some z)
    (hx : AS.ev { fr := fr, loc := loc, M := M, ds := ds } x = .mslice nm ver len) (hi : AS.ev { fr := fr, loc := loc, M := M, ds := ds } i = .int .i64 j) (hdst : o.dst = some d) (hd : Nat.blt d n = true)
    (h0 : 0 ≤ j) (h1 : j < (len : Int)) (k : K { fr := (d, .ptr nm ver (j.toNat * z)) :: fr, loc := loc, M := M, ds := ds }) :
    AOp Try.prog n o K Q { fr := fr, loc := loc, M := M, ds := ds } := by
  refine AOp.pure (c := .ptr nm ver (j.toNat * z)) ?_ (by rw [hdst]; exact hd) (by rw [hdst]; exact k)
  rw [ho]
  simp only [pstep, ht, hx, hi]
  rw [if_pos ⟨h0, h1⟩]

end

section
variable {n : Nat} {ops : List Oper} {effs : List Nat} {Q : APost} {ds : List CV} {cnt i d : Nat} {o : Oper} {rest : List Oper} {fr : List (Nat × CV)} {loc : List (Nat × AObj)} {M : List AObj}

theorem D.lenMap {x : Operand} {mi : Nat} {es : List (ByteArray × Int)} (hw : Wants ops fr o) (hor : ordAll ops effs i = true) (ho : o.op = .call { callee := .builtin .len, args := #[x], argTypes := #[48] })
    (hx : evF fr x = .map (.g mi)) (hg : M[mi]? = some (.map es)) (hdst : o.dst = some d) (hd : Nat.blt d n = true)
    (k : DOps n ops effs Q ds cnt (i + 1) rest ((d, .int .i64 (es.length : Int)) :: fr) loc M) : DOps n ops effs Q ds (cnt + 1) i (o :: rest) fr loc M := by
  refine D.valO (c := .int .i64 (es.length : Int)) hw hor hdst ?_ hd k
  have hx' : AS.ev { fr := fr, loc := loc, M := M, ds := [] } x = .map (.g mi) := hx ▸ ev_congr fun _ _ => rfl
  rw [headO_eq, ho]
  simp only [pstep, callStep, lenOf, tlen, hx', AS.get, hg]

/-- 'append' to a row that many frames know. -/
theorem D.appendG {t e sz by' len m ver gi len2 : Nat} {x y : Operand} {cs ys cs2 : List CV} (hw : Wants ops fr o) (hor : ordAll ops effs i = true) (hm : effs.contains i = true)
    (ho : o.op = .call { callee := .builtin .append, args := #[x, y], argTypes := #[t, t] })
    (ht : tapp t = some (e, sz, by')) (hx : evF fr x = .mslice (.g gi) ver len) (hg : M[gi]? = some (.arr ver e sz cs)) (hlen : cs.length = len * sz) (hy : evF fr y = .islice ys m) (hys : ys.length = m * sz)
    (h1 : ones ys = true) (hcs2 : cs ++ ys = cs2) (hlen2 : len + m = len2) (hgl : noLs cs2 = true) (hm0 : 0 < m) (hb : (len + m) * by' ≤ 140737488355328) (hm63 : len + m ≤ 9223372036854775807)
    (hdst : o.dst = some d) (hd : Nat.blt d n = true)
    (k : DOps n ops effs Q ds cnt (i + 1) rest ((d, .mslice (.g gi) (ver + 1) len2) :: fr) loc (M.set gi (.arr (ver + 1) e sz cs2))) : DOps n ops effs Q ds (cnt + 1) i (o :: rest) fr loc M := by
  subst hcs2; subst hlen2
  exact D.append hw hor hm ho ht hx hg hlen hy hys h1 hgl hm0 hb hm63 hdst hd k

theorem D.storeG {t : TypeId} {p x : Operand} {gi off k : Nat} {b : Bool} {cs ys cs' : List CV} (hw : Wants ops fr o) (hor : ordAll ops effs i = true) (hm : effs.contains i = true) (ho : o.op = .store t p x) (hdst : o.dst = none)
    (hp : evF fr p = .ptr (.g gi) 0 off) (hg : M[gi]? = some (.box cs)) (htk : tk t = some (b, k))
    (hys : (evF fr x).cells = ys) (hf : flat (evF fr x) = true) (hk : ys.length = k) (hset : setK cs off ys = some cs') (hgl : noLs cs' = true)
    (kk : DOps n ops effs Q ds cnt (i + 1) rest fr loc (M.set gi (.box cs'))) : DOps n ops effs Q ds (cnt + 1) i (o :: rest) fr loc M :=
  D.store hw hor hm ho hdst hp hg htk hys hf hk hset hgl kk

end
end Go.Proofs.Ytceocfancfjdjaa
