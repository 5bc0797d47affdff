/- append of a row that is read, nil or not. -/
import Derived.Test.YtgfkachfbnbikaaGreatDoorLaw
namespace Go.Proofs.YtgfkachfbnbikaaGreatDoor
open Go.RowKit

theorem run_append_none {w : World} (base : Nat) (t ty e : TypeId) (i : TypeInfo) (size : Nat) (ht : Tryz.prog.underlying t = some (.slice e)) (hi : Tryz.prog.info? e = some i)
    (v : Value) (n c : Nat) (xs : List Value) (hown : w.ownsRow base e size v n xs) :
    (Builtin.append_ #[t, t] ty #[v, .slice none 0 c]).run Tryz.prog w = .ok v w := by
  rcases hown.2 with ⟨rfl, rfl⟩ | ⟨g, cap, cur, rfl, _, _, hnc, _⟩
  · simp [Builtin.append_, run_underlying ht, sizeOf, typeInfo, hi, Builtin.lenOf, Builtin.firstCells]
  · simp [Builtin.append_, run_underlying ht, sizeOf, typeInfo, hi, Builtin.lenOf, Builtin.firstCells, hnc, storeCells]

section
variable {ops : Array Oper} {rest : List Oper} {o : Oper} {a : Act} {Q : Exit → Act → World → Prop}
/-- `append(v, ys...)` -/
theorem append_rv {W : World} (base : Nat) (hgd : o.guard = none) (s x : Operand)
    (ho : o.op = .call { callee := .builtin .append, args := #[s, x], argTypes := #[22, 22] })
    (v y : Value) (xs ys : List Nat) (HO : OV base W v xs) (HR : RV W y ys) (hs : a.eval s = v) (hx : a.eval x = y)
    (hbase : base ≤ W.heap.size) (hl : xs.length + ys.length ≤ 1073741824)
    (h : ∀ v1 w1, OV base w1 v1 (xs ++ ys) → W.grownBy w1 v.ownBlock → wpList Tryz.prog ops Q rest (a.put o.dst v1) w1) :
    wpList Tryz.prog ops Q (o :: rest) a W := by
  obtain ⟨A, c, rfl, hc, hd, hr⟩ := id HR
  cases A with
  | some ad => exact append_row_u32 base hgd s x ho v xs ys ad ys.length c HO HR hs hx hbase hl h
  | none =>
    have hy : ys = [] := by
      cases ys with
      | nil => rfl
      | cons z zs => obtain ⟨ad, e, _⟩ := hr 0 _ (u32s_get (z :: zs) 0 (by simp)); cases e
    subst hy
    obtain ⟨i0, hi, hz0, hz1, hz2⟩ := info_parts Tryz.info_u32
    have hrun := run_append_none base 22 o.type 46 i0 1 Tryz.underlying22 hi v xs.length c (u32s xs) HO.2
    refine wpList_plain hgd fun K hK => ?_
    unfold Oper.wp execOp
    simp only [ho, resolve, invoke, builtin, Sem.run_bind, Sem.run_pure, Result.andThen_ok, List.map_toArray, List.map_cons, List.map_nil, hs, hx]
    have e0 : ([] : List Nat).length = 0 := rfl
    rw [e0, hrun]
    exact hK _ _ (h v W (by rw [List.append_nil]; exact HO) ⟨rfl, rfl, rfl, Nat.le_refl _, fun _ _ _ => rfl⟩)
/-- `append([]uint32{}, ys...)`, behind the empty literal. -/
theorem copy_rv {w : World} (hgd : o.guard = none) (s x : Operand)
    (ho : o.op = .call { callee := .builtin .append, args := #[s, x], argTypes := #[22, 22] })
    (y : Value) (ys : List Nat) (HR : RV w y ys) (hs : a.eval s = .slice (some ⟨w.heap.size, 0, none⟩) 0 0) (hx : a.eval x = y)
    (h : ∀ v1 w1, OV w.heap.size w1 v1 ys → Ext w w1 → wpList Tryz.prog ops Q rest (a.put o.dst v1) w1) :
    wpList Tryz.prog ops Q (o :: rest) a (w.alloc (.cells #[] 46)) := by
  have h0 : OV w.heap.size (w.alloc (.cells #[] 46)) (.slice (some ⟨w.heap.size, 0, none⟩) 0 0) [] := OV.lit w [] (by simp) Ds.nil
  refine append_rv w.heap.size hgd s x ho _ y [] ys h0 (HR.ext ((Ext.refl w).alloc _)) hs hx (by simp) (by simpa using HR.dg.1) ?_
  intro v1 w1 h1 h2
  exact h v1 w1 h1 (h0.ext_grown ((Ext.refl w).alloc _) (Nat.le_refl _) h2)
end
end Go.Proofs.YtgfkachfbnbikaaGreatDoor
