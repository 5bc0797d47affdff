/- Contracts of shape: outer, Pack$1, Pack$2, Numbers$1; of fluxionref03: Outer; IndexFunc over Values with a function that has caught a variable. Contracts of shape: Pack$2; ContainsFunc over Values with a function that has caught a variable. Contracts of shape: Pack. Contracts of shape: Pack of values that fit. -/
import Derived.Test.YtcbaipnphepbeaaGreatDoorNv
import Derived.Test.YtcbaipnphepbeaaGreatDoorNq
namespace Go.Proofs.YtcbaipnphepbeaaGreatDoor
open Go.RowKit
attribute [local go_sem ↓] Go.wp_at_zero Go.wp_at_succ

theorem Keep2.init0 (w : World) (x0 x1 z0 z1 : Value) (t t' : TypeId) : Keep2 w x0 x1 ((w.alloc (.cells #[x0, x1] t)).alloc (.cells #[z0, z1] t')) :=
  ⟨⟨((Ext.refl w).alloc _).alloc _⟩, cell_old (cell_new rfl rfl), cell_old (cell_new rfl rfl), fits_new (v := z0) (by simp) rfl, fits_new (v := z1) (by simp) rfl⟩
set_option maxRecDepth 10000 in
set_option maxHeartbeats 4000000 in
theorem outer_calls {w : World} {v : Value} {k n : Int} {ds : List Int} (h : TV w v k ds) (hl : ds.length ≤ 1073741823) :
    Calls Tryz.prog 94 #[.int .i64 n, v] w fun e w' => ∃ r, e = .returned (.agg #[.int .i64 k, r]) ∧ SO w.heap.size 3 1 IntC w' r (n :: ds) ∧ Ext w w' := by
  obtain ⟨x, rfl, hi⟩ := h
  have hds := hi.sv
  obtain ⟨D, cd, rfl, hc⟩ := hi.form
  have hl30 : ds.length ≤ 1073741824 := by
    obtain ⟨_, _, _, _, h, _⟩ := hi
    exact h
  obtain ⟨nd, hnd⟩ : ∃ n, ds.length = n := ⟨_, rfl⟩
  have HLN : Aside (([n] ++ ds).length = nd + 1) := ⟨by simp [hnd]⟩
  have HLB : Aside ([n].length + ds.length ≤ 1073741824) := ⟨by simp; omega⟩
  rw [hnd] at hds ⊢
  have hk0 := Keep2.ext ((Ext.refl _).alloc (.cells #[.int .i64 n] 3)) (Keep2.init0 w (.int .i64 k) (.slice D nd cd) (.int .i64 0) (.slice none 0 0) 25 25)
  have hk1 := Keep2.ext ((Ext.refl _).drew) hk0
  have hkd := Keep2.ext ((Ext.refl _).drew) (Keep2.init0 w (.int .i64 k) (.slice D nd cd) (.int .i64 0) (.slice none 0 0) 25 25)
  have hlit := SO.lit (e := 3) (R := IntC) ((w.alloc (.cells #[.int .i64 k, .slice D nd cd] 25)).alloc (.cells #[.int .i64 0, .slice none 0 0] 25)) [.int .i64 n] [n] (by simp) (rows_ints [n] _)
  have hsz : ((w.alloc (.cells #[.int .i64 k, .slice D nd cd] 25)).alloc (.cells #[.int .i64 0, .slice none 0 0] 25)).heap.size = w.heap.size + 1 + 1 := by simp
  rw [hsz] at hlit
  have HLIT := Aside.mk (hlit.ext IntC.ext ((Ext.refl _).drew))
  have HDS := Aside.mk (hds.ext IntC.ext hk1.1.out)
  have HLT := Aside.mk hk1.lt
  clear hi hlit hsz hnd hds
  go_enter Tryz.func94, Tryz.ntmps94
  go_wp2
  go_region_law (refine step_append_so (R := IntC) (W := ((((w.alloc (.cells #[.int .i64 k, .slice D nd cd] 25)).alloc (.cells #[.int .i64 0, .slice none 0 0] 25)).alloc (.cells #[.int .i64 n] 3)).drew)) (w.heap.size + 2) elemInt rfl (.tmp 8) (.tmp 10) rfl (.slice (some ⟨w.heap.size + 1 + 1, 0, none⟩) 1 1) (.slice D nd cd) [n] ds HLIT.out HDS.out IntC.one (fun _ _ _ _ h => h) (by simp [Act.eval]) (by simp [Act.eval]) HLT.out HLB.out ?_; rintro v1 w5 ho hg; obtain ⟨A5, c5, rfl, _⟩ := ho.sv.form; rw [HLN.out] at ho ⊢; have hbel := Below.grown (Below.refl (w.heap.size + 2) _) hg HLT.out HLIT.out.low; have hk5 := hk1.below hbel; have HRO5 := Aside.mk ho; clear ho hg hbel)
  all_goals
    have HK5 := Aside.mk hk5
    clear hk0 hk1 hkd
    go_wp2_with fail
    refine bodyPost_ret (v := .agg #[.int .i64 k, .slice A5 (nd + 1) c5]) (by simp [results, Tryz.results94, go_sem, hk5]) rfl ⟨_, rfl, ?_, (HK5.out.1.out.set (Nat.le_succ _) _).set (Nat.le_succ _) _⟩
    exact ((HRO5.out.set (Nat.lt_succ_self _) _ (fun _ _ h => h)).set (Nat.lt_succ_self _) _ (fun _ _ h => h)).mono (Nat.le_succ_of_le (Nat.le_succ _))
theorem pack1_calls {w : World} {x : Value} {v : Vq} {b : Bool} (h : VV w x v) (ho : valOk v = b) :
    Calls Tryz.prog 92 #[x] w fun e w' => e = .returned (.bool (!b)) ∧ Ext w w' := by
  have H := Aside.mk h
  have HO := Aside.mk ho
  obtain ⟨D, cd, A, ca, B, cb, rfl⟩ := h.form
  have hk0 := KeepB.init w (.int .i64 v.k) (.slice D v.ds.length cd) (.slice A v.nums.length ca) (.slice B v.bits.length cb) 29
  clear h ho
  cases b
  · go_enter Tryz.func92, Tryz.ntmps92
    go_wp2_with (go_at_call 15; (with_reducible refine (isValue_calls (H.out.ext hk0.1.out) HO.out).mono ?_); rintro e w1 ⟨rfl, he⟩; replace hk0 := KeepB.ext he hk0; clear he)
    go_ret
    exact ⟨rfl, hk0.1.out⟩
  · go_enter Tryz.func92, Tryz.ntmps92
    go_wp2_with (go_at_call 15; (with_reducible refine (isValue_calls (H.out.ext hk0.1.out) HO.out).mono ?_); rintro e w1 ⟨rfl, he⟩; replace hk0 := KeepB.ext he hk0; clear he)
    go_ret
    exact ⟨rfl, hk0.1.out⟩
theorem numbers1_calls {w : World} {x : Value} {v : Vq} {b : Bool} (h : VV w x v) (ho : valOk v = b) :
    Calls Tryz.prog 95 #[x] w fun e w' => e = .returned (.bool (!b)) ∧ Ext w w' := by
  have H := Aside.mk h
  have HO := Aside.mk ho
  obtain ⟨D, cd, A, ca, B, cb, rfl⟩ := h.form
  have hk0 := KeepB.init w (.int .i64 v.k) (.slice D v.ds.length cd) (.slice A v.nums.length ca) (.slice B v.bits.length cb) 29
  clear h ho
  cases b
  · go_enter Tryz.func95, Tryz.ntmps95
    go_wp2_with (go_at_call 15; (with_reducible refine (isValue_calls (H.out.ext hk0.1.out) HO.out).mono ?_); rintro e w1 ⟨rfl, he⟩; replace hk0 := KeepB.ext he hk0; clear he)
    go_ret
    exact ⟨rfl, hk0.1.out⟩
  · go_enter Tryz.func95, Tryz.ntmps95
    go_wp2_with (go_at_call 15; (with_reducible refine (isValue_calls (H.out.ext hk0.1.out) HO.out).mono ?_); rintro e w1 ⟨rfl, he⟩; replace hk0 := KeepB.ext he hk0; clear he)
    go_ret
    exact ⟨rfl, hk0.1.out⟩
end Go.Proofs.YtcbaipnphepbeaaGreatDoor

namespace Go.Proofs.YtcbaipnphepbeaaGreatDoor
open Go.RowKit
attribute [local go_sem ↓] Go.wp_at_zero Go.wp_at_succ

/-- A value's box, a variable that holds a slice, and the first element's type. -/
abbrev KC (w : World) (x0 x1 x2 x3 : Value) (g : Nat) (s : Value) (b0 o0 : Nat) (y0 y1 : Value) (w' : World) : Prop :=
  KeepB w x0 x1 x2 x3 w' ∧ w'.cell? ⟨g, 0, none⟩ = some s ∧ w'.cell? ⟨b0, o0, none⟩ = some y0 ∧ w'.cell? ⟨b0, o0 + 1, none⟩ = some y1
theorem KC.ext {w w1 w2 : World} {x0 x1 x2 x3 s y0 y1 : Value} {g b0 o0 : Nat} (e : Ext w1 w2) (h : KC w x0 x1 x2 x3 g s b0 o0 y0 y1 w1) : KC w x0 x1 x2 x3 g s b0 o0 y0 y1 w2 := ⟨KeepB.ext e h.1, e.cell h.2.1, e.cell h.2.2.1, e.cell h.2.2.2⟩
set_option maxRecDepth 10000 in
set_option maxHeartbeats 4000000 in
theorem pack2_calls {w : World} {x s : Value} {v q0 : Vq} {l : List Vq} {g : Nat} {b : Bool} (h : VV w x v) (hs : w.cell? ⟨g, 0, none⟩ = some s) (hl : LV w s l) (hq : l[0]? = some q0) (hb : tySame v.k v.ds q0.k q0.ds = b) :
    Calls Tryz.prog 93 #[x, .pointer (some ⟨g, 0, none⟩)] w fun e w' => e = .returned (.bool (!b)) ∧ Ext w w' := by
  obtain ⟨A, c, rfl, hc, hn30⟩ := hl.form
  obtain ⟨b0, o0, d, y, z, rfl, hc0, hc1, hc2, hc3, hvv⟩ := LV.at' hl 0 hq
  simp only [Nat.zero_mul, Nat.add_zero] at hc0 hc1
  obtain ⟨D, cd, A', ca, B, cb, rfl⟩ := h.form
  obtain ⟨-, ht1, -, -⟩ := h.ty
  obtain ⟨-, ht2, -, -⟩ := hvv.ty
  have HT1 := Aside.mk ht1
  have HT2 := Aside.mk ht2
  obtain ⟨u, e, hi⟩ := ht2
  simp only [Value.agg.injEq, Array.mk.injEq, List.cons.injEq, true_and, and_true] at e
  subst e
  obtain ⟨D0, c0, rfl, _⟩ := hi.form
  have HB := Aside.mk hb
  have hlp : 0 < l.length := (List.getElem?_eq_some_iff.1 hq).1
  obtain ⟨n, hn⟩ : ∃ n, l.length = n := ⟨_, rfl⟩
  obtain ⟨nd, hnd⟩ : ∃ n, v.ds.length = n := ⟨_, rfl⟩
  obtain ⟨n0, hn0⟩ : ∃ n, q0.ds.length = n := ⟨_, rfl⟩
  rw [hn] at hs hc hn30 hlp
  rw [hnd] at HT1 ⊢
  rw [hn0] at HT2 hc1
  have hk0 := KeepB.init w (.int .i64 v.k) (.slice D nd cd) (.slice A' v.nums.length ca) (.slice B v.bits.length cb) 29
  have hkk : KC w (.int .i64 v.k) (.slice D nd cd) (.slice A' v.nums.length ca) (.slice B v.bits.length cb) g (.slice (some ⟨b0, o0, none⟩) n c) b0 o0 (.int .i64 q0.k) (.slice D0 n0 c0) (w.alloc (.cells #[.int .i64 v.k, .slice D nd cd, .slice A' v.nums.length ca, .slice B v.bits.length cb] 29)).drew :=
    KC.ext ((Ext.refl _).drew) ⟨hk0, cell_old hs, cell_old hc0, cell_old hc1⟩
  have i1 : (0 : Int) < (n : Int) := by omega
  clear h hs hl hq hb hc0 hc1 hc2 hc3 hvv ht1 hi hn hnd hn0 hk0
  cases b
  · go_enter Tryz.func93, Tryz.ntmps93
    go_wp2
    go_region_held3 (fun w' => KC w (.int .i64 v.k) (.slice D nd cd) (.slice A' v.nums.length ca) (.slice B v.bits.length cb) g (.slice (some ⟨b0, o0, none⟩) n c) b0 o0 (.int .i64 q0.k) (.slice D0 n0 c0) w') (first | assumption | exact KC.ext (by assumption) (by assumption)) ((go_at_call 33; (with_reducible refine (shSame_calls (HT1.out.ext (Aside.out (And.left (And.left (show KC w (.int .i64 v.k) (.slice D nd cd) (.slice A' v.nums.length ca) (.slice B v.bits.length cb) g (.slice (some ⟨b0, o0, none⟩) n c) b0 o0 (.int .i64 q0.k) (.slice D0 n0 c0) _ from by assumption))))) (HT2.out.ext (Aside.out (And.left (And.left (show KC w (.int .i64 v.k) (.slice D nd cd) (.slice A' v.nums.length ca) (.slice B v.bits.length cb) g (.slice (some ⟨b0, o0, none⟩) n c) b0 o0 (.int .i64 q0.k) (.slice D0 n0 c0) _ from by assumption))))) HB.out).mono ?_); rintro e w1 ⟨rfl, he1⟩))
    have hk1 := KC.ext he1 hkk
    go_wp2_with fail
    go_ret
    exact ⟨rfl, hk1.1.1.out⟩
  · go_enter Tryz.func93, Tryz.ntmps93
    go_wp2
    go_region_held3 (fun w' => KC w (.int .i64 v.k) (.slice D nd cd) (.slice A' v.nums.length ca) (.slice B v.bits.length cb) g (.slice (some ⟨b0, o0, none⟩) n c) b0 o0 (.int .i64 q0.k) (.slice D0 n0 c0) w') (first | assumption | exact KC.ext (by assumption) (by assumption)) ((go_at_call 33; (with_reducible refine (shSame_calls (HT1.out.ext (Aside.out (And.left (And.left (show KC w (.int .i64 v.k) (.slice D nd cd) (.slice A' v.nums.length ca) (.slice B v.bits.length cb) g (.slice (some ⟨b0, o0, none⟩) n c) b0 o0 (.int .i64 q0.k) (.slice D0 n0 c0) _ from by assumption))))) (HT2.out.ext (Aside.out (And.left (And.left (show KC w (.int .i64 v.k) (.slice D nd cd) (.slice A' v.nums.length ca) (.slice B v.bits.length cb) g (.slice (some ⟨b0, o0, none⟩) n c) b0 o0 (.int .i64 q0.k) (.slice D0 n0 c0) _ from by assumption))))) HB.out).mono ?_); rintro e w1 ⟨rfl, he1⟩))
    have hk1 := KC.ext he1 hkk
    go_wp2_with fail
    go_ret
    exact ⟨rfl, hk1.1.1.out⟩
/-- IndexFunc over Values. -/
theorem indexValC_calls {w : World} {F : FuncId} {v u : Value} {l : List Vq} {p : Vq → Bool} (hC : ∀ args w, Sem.run Tryz.prog (callFunc F args) w = .ok (.enter F args) w) (h : LV w v l)
    (hF : ∀ w' x q, Ext w w' → VV w' x q → Calls Tryz.prog F #[x, u] w' fun e w2 => e = .returned (.bool (p q)) ∧ Ext w' w2) :
    Calls Tryz.prog 128 #[v, .func (.func F) #[] #[u]] w fun e w' => (∃ r : Int, e = .returned (.int .i64 r) ∧ decide (0 ≤ r) = l.any p) ∧ Ext w w' := by
  obtain ⟨A, c, rfl, hc, hl⟩ := h.form
  have H := Aside.mk h
  have HF := Aside.mk hF
  clear h hF
  obtain ⟨n, hn⟩ : ∃ n, l.length = n := ⟨_, rfl⟩
  have HN := Aside.mk hn
  rw [hn] at hc hl H ⊢
  clear hn
  go_enter Tryz.func128, Tryz.ntmps128
  go_wp2
  go_loopw [8] (fun i wr => ∃ k : Nat, k ≤ n ∧ i = .int .i64 (k : Int) ∧ Aside ((l.take k).any p = false) ∧ Aside (Ext w wr)) (fun i _ => n - (intOf i).toNat)
  case atStart => exact ⟨0, by omega, rfl, ⟨by simp⟩, ⟨Ext.refl w⟩⟩
  case round =>
    obtain ⟨k, hk, rfl, HP, HE⟩ := hrel
    by_cases hlt : k < n
    · obtain ⟨q, hq⟩ : ∃ q, l[k]? = some q := ⟨l[k]'(by rw [HN.out]; exact hlt), List.getElem?_eq_getElem _⟩
      obtain ⟨b0, o0, d, x, y, rfl, hc0, hc1, hc2, hc3, hrr⟩ := LV.at' (SV.ext ValC.ext H.out HE.out) k hq
      have HR := Aside.mk hrr
      clear hrr
      have HG := Aside.mk hq
      obtain ⟨b, hb⟩ : ∃ b, p q = b := ⟨_, rfl⟩
      have HB := Aside.mk hb
      clear hb hq
      cases b
      · have HP2 : Aside ((l.take (k + 1)).any p = false) := ⟨by rw [List.take_add_one, HG.out, List.any_append, HP.out]; simp [HB.out]⟩
        go_wp2_with (with_reducible refine (HF.out _ _ _ HE.out HR.out).mono ?_; rw [HB.out]; rintro e w2 ⟨rfl, he⟩; have HE2 := Aside.mk (HE.out.trans he); clear he)
        go_roundw
        case rel => exact ⟨k + 1, by omega, by go_num, HP2, HE2⟩
        case measure => simp [intOf]; omega
      · have HT : Aside (l.any p = true) := ⟨List.any_eq_true.2 ⟨q, List.mem_of_getElem? HG.out, HB.out⟩⟩
        go_wp2_with (with_reducible refine (HF.out _ _ _ HE.out HR.out).mono ?_; rw [HB.out]; rintro e w2 ⟨rfl, he⟩; have HE2 := Aside.mk (HE.out.trans he); clear he)
        go_ret
        exact ⟨⟨_, rfl, by rw [HT.out]; simp⟩, HE2.out⟩
    · have hkn : k = n := by omega
      have HT : Aside (l.any p = false) := ⟨by have := HP.out; rw [hkn, ← HN.out, List.take_length] at this; exact this⟩
      go_wp2
      go_ret
      exact ⟨⟨_, rfl, by rw [HT.out]; rfl⟩, HE.out⟩
theorem containsValC_calls {w : World} {F : FuncId} {v u : Value} {l : List Vq} {p : Vq → Bool} {b : Bool} (hC : ∀ args w, Sem.run Tryz.prog (callFunc F args) w = .ok (.enter F args) w) (h : LV w v l) (hb : l.any p = b)
    (hF : ∀ w' x q, Ext w w' → VV w' x q → Calls Tryz.prog F #[x, u] w' fun e w2 => e = .returned (.bool (p q)) ∧ Ext w' w2) :
    Calls Tryz.prog 91 #[v, .func (.func F) #[] #[u]] w fun e w' => e = .returned (.bool b) ∧ Ext w w' := by
  have H := Aside.mk h
  have HF := Aside.mk hF
  obtain ⟨A, c, rfl, _⟩ := h.form
  have HB := Aside.mk hb
  clear h hb hF
  go_enter Tryz.func91, Tryz.ntmps91
  go_wp2_with (go_at_call 128; refine (indexValC_calls hC H.out HF.out).mono ?_; rintro e w1 ⟨⟨r, rfl, hr⟩, he⟩)
  go_ret
  exact ⟨by rw [← HB.out, ← hr]; rfl, he⟩
end Go.Proofs.YtcbaipnphepbeaaGreatDoor

namespace Go.Proofs.YtcbaipnphepbeaaGreatDoor
open Go.RowKit
attribute [local go_sem ↓] Go.wp_at_zero Go.wp_at_succ

/-- A box of one cell, and a result of four. -/
abbrev KB4 (w : World) (s : Value) (W : World) : Prop :=
  Aside (Ext w W) ∧ W.cell? ⟨w.heap.size, 0, none⟩ = some s ∧ (Fits W ⟨w.heap.size + 1, 0, none⟩ ∧ Fits W ⟨w.heap.size + 1, 1, none⟩ ∧ Fits W ⟨w.heap.size + 1, 2, none⟩ ∧ Fits W ⟨w.heap.size + 1, 3, none⟩)
theorem KB4.below {w w1 w2 : World} {s : Value} (h : KB4 w s w1) (b : Below (w.heap.size + 2) w1 w2) : KB4 w s w2 := by
  obtain ⟨h0, h1, ⟨h5, h6, h7, h8⟩⟩ := h
  have hc : ∀ {g j : Nat} {v : Value}, g < w.heap.size + 2 → w1.cell? ⟨g, j, none⟩ = some v → w2.cell? ⟨g, j, none⟩ = some v := fun hg h => (Below.cell b hg).trans h
  have hf : ∀ {g j : Nat}, g < w.heap.size + 2 → w1.frozen? ⟨g, j, none⟩ = false → w2.frozen? ⟨g, j, none⟩ = false := fun hg h => (Below.frozen b hg).trans h
  have hF : ∀ {g j : Nat}, g < w.heap.size + 2 → Fits w1 ⟨g, j, none⟩ → Fits w2 ⟨g, j, none⟩ := fun hg h => Fits.of (hc hg h.1) (hf hg h.2)
  exact ⟨⟨Below.trans h0.out (Below.mono b (by omega))⟩, hc (by omega) h1, ⟨hF (by omega) h5, hF (by omega) h6, hF (by omega) h7, hF (by omega) h8⟩⟩
theorem KB4.lt {w w1 : World} {s : Value} (h : KB4 w s w1) : w.heap.size + 2 ≤ w1.heap.size := World.block_lt_of_cell? w1 ⟨w.heap.size + 1, 0, none⟩ h.2.2.1.1
theorem KB4.ext {w w1 w2 : World} {s : Value} (e : Ext w1 w2) (h : KB4 w s w1) : KB4 w s w2 := h.below (Below.mono e h.lt)
theorem KB4.far {w w1 : World} {s : Value} (h : KB4 w s w1) {g : Nat} (hg : w.heap.size + 2 ≤ g) (j : Nat) (v : Value) : KB4 w s (w1.setCell ⟨g, j, none⟩ v) := h.below (Below.setCell (Below.refl _ _) hg v)
theorem KB4.init (w : World) (s z0 z1 z2 z3 : Value) (t t' : TypeId) : KB4 w s ((w.alloc (.cells #[s] t)).alloc (.cells #[z0, z1, z2, z3] t')) :=
  ⟨⟨((Ext.refl w).alloc _).alloc _⟩, cell_old (cell_new rfl rfl), ⟨fits_new (v := z0) (by simp) rfl, fits_new (v := z1) (by simp) rfl, fits_new (v := z2) (by simp) rfl, fits_new (v := z3) (by simp) rfl⟩⟩
/-- The array of values. -/
def packV (l : List Vq) : Vq := ⟨(l.headD zeroV).k, (l.length : Int) :: (l.headD zeroV).ds, l.flatMap (·.nums), l.flatMap (·.bits)⟩
/-- What Pack returns. -/
def packR (l : List Vq) : Vq × Int :=
  if 64 < l.length then (zeroV, 3) else if (l.any fun q => !valOk q) = true then (zeroV, 5) else if l.length = 0 ∨ 8 < l.length then (zeroV, 2)
  else if (l.headD zeroV).ds.length = 3 ∨ (l.any fun q => !tySame q.k q.ds (l.headD zeroV).k (l.headD zeroV).ds) = true then (zeroV, 12) else (packV l, 0)
/-- A value and an error. -/
def ValP (b : Nat) (w' : World) (m : Vq × Int) (e : Ending) : Prop := ∃ r, e = .returned (.tuple #[r, .int .i64 m.2]) ∧ VO b w' r m.1
theorem valOk_len {v : Vq} (h : valOk v = true) : v.nums.length ≤ 512 ∧ v.bits.length ≤ 512 := by
  have hp := (valOk_dims h).prod
  unfold valOk at h
  simp only [Bool.and_eq_true] at h
  have h2 := h.2
  split at h2
  · simp only [Bool.and_eq_true, beq_iff_eq] at h2; omega
  · split at h2
    · simp only [Bool.and_eq_true, beq_iff_eq] at h2; omega
    · cases h2
theorem any_not_valOk {l : List Vq} (h : (l.any fun q => !valOk q) = false) {j : Nat} {q : Vq} (hq : l[j]? = some q) : valOk q = true := by
  rw [List.any_eq_false] at h
  simpa using h q (List.mem_of_getElem? hq)
theorem flat_snoc {α : Type} {l : List Vq} {f : Vq → List α} {j : Nat} {q : Vq} (hq : l[j]? = some q) : (l.take (j + 1)).flatMap f = (l.take j).flatMap f ++ f q := by
  rw [List.take_add_one, hq, List.flatMap_append]; simp
set_option maxRecDepth 10000 in
set_option maxHeartbeats 8000000 in
theorem pack_bad {w : World} {v : Value} {l : List Vq} {m : Vq × Int} (h : LV w v l) (hm : packR l = m) (hb : 64 < l.length ∨ (l.any fun q => !valOk q) = true ∨ (l.length = 0 ∨ 8 < l.length)) :
    Calls Tryz.prog 42 #[v] w fun e w' => ValP w.heap.size w' m e ∧ Ext w w' := by
  obtain ⟨A, c, rfl, hc, hl30⟩ := h.form
  have HL := Aside.mk h
  have HM0 := Aside.mk hm
  obtain ⟨n, hn⟩ : ∃ n, l.length = n := ⟨_, rfl⟩
  have HN := Aside.mk hn
  rw [hn] at HL hc hl30 hb ⊢
  obtain ⟨b, hbb⟩ : ∃ b, (l.any fun q => !valOk q) = b := ⟨_, rfl⟩
  have HA := Aside.mk hbb
  rw [hbb] at hb
  have HC1 : Aside (∀ args w, Sem.run Tryz.prog (callFunc 92 args) w = .ok (.enter 92 args) w) := ⟨by intro args w; simp [go_sem]⟩
  have HF1 : Aside (∀ {W : World} w' x q, Ext W w' → VV w' x q → Calls Tryz.prog 92 #[x] w' fun e w2 => e = .returned (.bool (!valOk q)) ∧ Ext w' w2) := ⟨fun w' x q _ h => pack1_calls h rfl⟩
  have hk0 := KB4.init w (.slice A n c) (.int .i64 0) (.slice none 0 0) (.slice none 0 0) (.slice none 0 0) 66 29
  have hp := HM0.out
  unfold packR at hp
  rw [hn] at hp
  clear h hn hm
  by_cases h64 : 64 < n
  · have HM : Aside (m = (zeroV, 3)) := ⟨by rw [← hp, if_pos h64]⟩
    have h64' : (64 : Int) < (n : Int) := by omega
    clear hp hb hbb
    have HK := Aside.mk hk0
    clear hk0
    go_enter Tryz.func42, Tryz.ntmps42
    go_wp2_with fail
    refine bodyPost_ret (v := .tuple #[.agg #[.int .i64 0, .slice none 0 0, .slice none 0 0, .slice none 0 0], .int .i64 3]) (by simp [results, Tryz.results42, go_sem]) rfl ⟨?_, HK.out.1.out⟩
    rw [HM.out]
    exact ⟨_, rfl, VO.zero _ _⟩
  · have h64' : ¬ (64 : Int) < (n : Int) := by omega
    rw [if_neg h64] at hp
    cases b
    · rw [hbb, if_neg (by decide)] at hp
      have hn8 : n = 0 ∨ 8 < n := by
        rcases hb with h | h | h
        · exact absurd h h64
        · cases h
        · exact h
      have HM : Aside (m = (zeroV, 2)) := ⟨by rw [← hp, if_pos hn8]⟩
      clear hp hb hbb h64
      rcases hn8 with rfl | h8
      · go_enter Tryz.func42, Tryz.ntmps42
        go_wp2_with (go_at_call 91; (with_reducible refine (containsVal_calls (p := fun q => !valOk q) HC1.out (HL.out.ext ValC.ext hk0.1.out) HA.out HF1.out).mono ?_); rintro e w1 ⟨rfl, he⟩; replace hk0 := KB4.ext he hk0; clear he)
        have HK := Aside.mk hk0
        go_wp2_with fail
        refine bodyPost_ret (v := .tuple #[.agg #[.int .i64 0, .slice none 0 0, .slice none 0 0, .slice none 0 0], .int .i64 2]) (by simp [results, Tryz.results42, go_sem, hk0]) rfl ⟨?_, ext_set4 HK.out.1.out (Nat.le_succ _) _ _ _ _⟩
        rw [HM.out]
        exact ⟨_, rfl, VO.zero _ _⟩
      · have h8' : (8 : Int) < (n : Int) := by omega
        have h0' : ((n : Int) == 0) = false := beq_eq_false_iff_ne.2 (by omega)
        go_enter Tryz.func42, Tryz.ntmps42
        go_wp2_with (go_at_call 91; (with_reducible refine (containsVal_calls (p := fun q => !valOk q) HC1.out (HL.out.ext ValC.ext hk0.1.out) HA.out HF1.out).mono ?_); rintro e w1 ⟨rfl, he⟩; replace hk0 := KB4.ext he hk0; clear he)
        have HK := Aside.mk hk0
        go_wp2_with fail
        refine bodyPost_ret (v := .tuple #[.agg #[.int .i64 0, .slice none 0 0, .slice none 0 0, .slice none 0 0], .int .i64 2]) (by simp [results, Tryz.results42, go_sem, hk0]) rfl ⟨?_, ext_set4 HK.out.1.out (Nat.le_succ _) _ _ _ _⟩
        rw [HM.out]
        exact ⟨_, rfl, VO.zero _ _⟩
    · have HM : Aside (m = (zeroV, 5)) := ⟨by rw [← hp, hbb, if_pos rfl]⟩
      clear hp hb hbb h64
      go_enter Tryz.func42, Tryz.ntmps42
      go_wp2_with (go_at_call 91; (with_reducible refine (containsVal_calls (p := fun q => !valOk q) HC1.out (HL.out.ext ValC.ext hk0.1.out) HA.out HF1.out).mono ?_); rintro e w1 ⟨rfl, he⟩; replace hk0 := KB4.ext he hk0; clear he)
      have HK := Aside.mk hk0
      go_wp2_with fail
      refine bodyPost_ret (v := .tuple #[.agg #[.int .i64 0, .slice none 0 0, .slice none 0 0, .slice none 0 0], .int .i64 5]) (by simp [results, Tryz.results42, go_sem, hk0]) rfl ⟨?_, ext_set4 HK.out.1.out (Nat.le_succ _) _ _ _ _⟩
      rw [HM.out]
      exact ⟨_, rfl, VO.zero _ _⟩
end Go.Proofs.YtcbaipnphepbeaaGreatDoor

namespace Go.Proofs.YtcbaipnphepbeaaGreatDoor
open Go.RowKit
attribute [local go_sem ↓] Go.wp_at_zero Go.wp_at_succ

theorem B4.same {w w1 : World} {g : Nat} {x0 x1 x2 x3 : Value} (h : B4 w g x0 x1 x2 x3) (e : w1.heap[g]? = w.heap[g]?) : B4 w1 g x0 x1 x2 x3 :=
  ⟨⟨(World.cell?_of_block (a := ⟨g, 0, none⟩) e).trans h.1.1, (World.cell?_of_block (a := ⟨g, 1, none⟩) e).trans h.1.2.1, (World.cell?_of_block (a := ⟨g, 2, none⟩) e).trans h.1.2.2.1, (World.cell?_of_block (a := ⟨g, 3, none⟩) e).trans h.1.2.2.2⟩,
    (World.frozen?_of_block (a := ⟨g, 0, none⟩) e).trans h.2.1, (World.frozen?_of_block (a := ⟨g, 1, none⟩) e).trans h.2.2.1, (World.frozen?_of_block (a := ⟨g, 2, none⟩) e).trans h.2.2.2.1, (World.frozen?_of_block (a := ⟨g, 3, none⟩) e).trans h.2.2.2.2⟩
theorem B4.grown {w w1 : World} {g : Nat} {x0 x1 x2 x3 : Value} {b : Option Nat} (h : B4 w g x0 x1 x2 x3) (hg : w.grownBy w1 b) (hne : b ≠ some g) : B4 w1 g x0 x1 x2 x3 :=
  h.same (hg.block g h.lt (fun e => hne e.symm))
theorem SO.new_ne {α : Type} {base : Nat} {e : TypeId} {k : Nat} {R : World → List Value → α → Prop} {w : World} {v : Value} {l : List α} (h : SO base e k R w v l) {g : Nat} (hg : w.heap.size = g) : v.ownBlock ≠ some g := fun e => by
  obtain ⟨xs, ho⟩ := h.row
  have := (ho.lt _ e).2
  omega
theorem VO.parts {b : Nat} {w : World} {k : Int} {d n x : Value} {v : Vq} (h : VO b w (.agg #[.int .i64 k, d, n, x]) v) : SO b 3 1 IntC w d v.ds ∧ SO b 83 4 (RatO b) w n v.nums ∧ SO b 46 2 BitC w x v.bits := by
  obtain ⟨d', n', b', e, h1, h2, h3⟩ := h
  simp only [Value.agg.injEq, Array.mk.injEq, List.cons.injEq, and_true] at e
  obtain ⟨-, rfl, rfl, rfl⟩ := e
  exact ⟨h1, h2, h3⟩
theorem any_tySame {l : List Vq} {q0 : Vq} (h : (l.any fun q => !tySame q.k q.ds q0.k q0.ds) = true ∨ q0.ds.length = 3) (hq : l[0]? = some q0) : (l.headD zeroV).ds.length = 3 ∨ (l.any fun q => !tySame q.k q.ds (l.headD zeroV).k (l.headD zeroV).ds) = true := by
  cases l with
  | nil => cases hq
  | cons a t =>
    obtain rfl : a = q0 := Option.some.inj hq
    exact h.symm
theorem packR_type {l : List Vq} {q0 : Vq} (h1 : ¬ 64 < l.length) (h2 : (l.any fun q => !valOk q) = false) (h3 : ¬ (l.length = 0 ∨ 8 < l.length)) (hq : l[0]? = some q0) (h : (l.any fun q => !tySame q.k q.ds q0.k q0.ds) = true ∨ q0.ds.length = 3) : packR l = (zeroV, 12) := by
  unfold packR
  rw [if_neg h1, h2, if_neg (by decide), if_neg h3, if_pos (any_tySame h hq)]
theorem packR_ok {l : List Vq} {q0 : Vq} (h1 : ¬ 64 < l.length) (h2 : (l.any fun q => !valOk q) = false) (h3 : ¬ (l.length = 0 ∨ 8 < l.length)) (hq : l[0]? = some q0) (ha : (l.any fun q => !tySame q.k q.ds q0.k q0.ds) = false) (hd : q0.ds.length ≠ 3) :
    packR l = (⟨q0.k, (l.length : Int) :: q0.ds, l.flatMap (·.nums), l.flatMap (·.bits)⟩, 0) := by
  cases l with
  | nil => cases hq
  | cons a t =>
    obtain rfl : a = q0 := Option.some.inj hq
    unfold packR
    rw [if_neg h1, h2, if_neg (by decide), if_neg h3, if_neg]
    · rfl
    · show ¬ (a.ds.length = 3 ∨ ((a :: t).any fun q => !tySame q.k q.ds a.k a.ds) = true)
      rw [ha]
      simp [hd]
set_option maxRecDepth 10000 in
set_option maxHeartbeats 8000000 in
theorem pack_type {w : World} {v : Value} {l : List Vq} {q0 : Vq} {m : Vq × Int} (h : LV w v l) (hm : packR l = m) (hn8 : 1 ≤ l.length ∧ l.length ≤ 8) (ha : (l.any fun q => !valOk q) = false) (hq : l[0]? = some q0)
    (hb : (l.any fun q => !tySame q.k q.ds q0.k q0.ds) = true ∨ q0.ds.length = 3) :
    Calls Tryz.prog 42 #[v] w fun e w' => ValP w.heap.size w' m e ∧ Ext w w' := by
  have HM : Aside (m = (zeroV, 12)) := ⟨by rw [← hm]; exact packR_type (by omega) ha (by omega) hq hb⟩
  obtain ⟨A, c, rfl, hc, hl30⟩ := h.form
  obtain ⟨b0, o0, d, y, z, rfl, hc0, hc1, hc2, hc3, hvv⟩ := LV.at' h 0 hq
  simp only [Nat.zero_mul, Nat.add_zero] at hc0 hc1
  obtain ⟨-, ht2, -, -⟩ := hvv.ty
  have HT2 := Aside.mk ht2
  obtain ⟨u, e, hi⟩ := ht2
  simp only [Value.agg.injEq, Array.mk.injEq, List.cons.injEq, true_and, and_true] at e
  subst e
  obtain ⟨D0, c0, rfl, _⟩ := hi.form
  have HL := Aside.mk h
  obtain ⟨n, hn⟩ : ∃ n, l.length = n := ⟨_, rfl⟩
  have HN := Aside.mk hn
  obtain ⟨n0, hn0⟩ : ∃ n, q0.ds.length = n := ⟨_, rfl⟩
  have HN0 := Aside.mk hn0
  rw [hn] at HL hc hl30 hn8 ⊢
  rw [hn0] at hc1 HT2
  have HC0 := Aside.mk (And.intro hc0 hc1)
  have HQ0 := Aside.mk hq
  have HA := Aside.mk ha
  have HC1 : Aside (∀ args w, Sem.run Tryz.prog (callFunc 92 args) w = .ok (.enter 92 args) w) := ⟨by intro args w; simp [go_sem]⟩
  have HC2 : Aside (∀ args w, Sem.run Tryz.prog (callFunc 93 args) w = .ok (.enter 93 args) w) := ⟨by intro args w; simp [go_sem]⟩
  have HF1 : Aside (∀ {W : World} w' x q, Ext W w' → VV w' x q → Calls Tryz.prog 92 #[x] w' fun e w2 => e = .returned (.bool (!valOk q)) ∧ Ext w' w2) := ⟨fun w' x q _ h => pack1_calls h rfl⟩
  have HF2 : Aside (∀ {W : World}, KB4 w (.slice (some ⟨b0, o0, none⟩) n c) W → ∀ w' x q, Ext W w' → VV w' x q → Calls Tryz.prog 93 #[x, .pointer (some ⟨w.heap.size, 0, none⟩)] w' fun e w2 => e = .returned (.bool (!tySame q.k q.ds q0.k q0.ds)) ∧ Ext w' w2) :=
    ⟨fun hk w' x q e h => pack2_calls h (e.cell hk.2.1) (HL.out.ext ValC.ext (hk.1.out.trans e)) HQ0.out rfl⟩
  have hk0 := KB4.init w (.slice (some ⟨b0, o0, none⟩) n c) (.int .i64 0) (.slice none 0 0) (.slice none 0 0) (.slice none 0 0) 66 29
  have h64' : ¬ (64 : Int) < (n : Int) := by omega
  have h8' : ¬ (8 : Int) < (n : Int) := by omega
  have h0' : ((n : Int) == 0) = false := beq_eq_false_iff_ne.2 (by omega)
  have i1 : (0 : Int) < (n : Int) := by omega
  have hlp : 0 < n := by omega
  clear h hm ha hq hc0 hc1 hc2 hc3 hvv hi hn
  by_cases h3 : n0 = 3
  · have h3' : ((n0 : Int) == 3) = true := by simp [h3]
    clear hb h3 hn0
    go_enter Tryz.func42, Tryz.ntmps42
    go_wp2_with (go_at_call 91; (with_reducible refine (containsVal_calls (p := fun q => !valOk q) HC1.out (HL.out.ext ValC.ext hk0.1.out) HA.out HF1.out).mono ?_); rintro e w1 ⟨rfl, he⟩; have hk1 := KB4.ext he hk0; have hcd := hk1.1.out.cell HC0.out.2; have hck := hk1.1.out.cell HC0.out.1; clear he)
    have HK := Aside.mk hk1
    go_wp2_with fail
    refine bodyPost_ret (v := .tuple #[.agg #[.int .i64 0, .slice none 0 0, .slice none 0 0, .slice none 0 0], .int .i64 12]) (by simp [results, Tryz.results42, go_sem, hk1]) rfl ⟨?_, ext_set4 HK.out.1.out (Nat.le_succ _) _ _ _ _⟩
    rw [HM.out]
    exact ⟨_, rfl, VO.zero _ _⟩
  · have h3' : ((n0 : Int) == 3) = false := beq_eq_false_iff_ne.2 (by omega)
    have HA2 : Aside ((l.any fun q => !tySame q.k q.ds q0.k q0.ds) = true) := ⟨hb.resolve_right (by rw [hn0]; exact h3)⟩
    clear hb h3 hn0
    go_enter Tryz.func42, Tryz.ntmps42
    go_wp2_with (first | (go_at_call 91; (with_reducible refine (containsVal_calls (p := fun q => !valOk q) HC1.out (HL.out.ext ValC.ext hk0.1.out) HA.out HF1.out).mono ?_); rintro e w1 ⟨rfl, he⟩; have hk1 := KB4.ext he hk0; have hcd := hk1.1.out.cell HC0.out.2; have hck := hk1.1.out.cell HC0.out.1; clear he) | (go_at_call 91; (with_reducible refine (containsValC_calls (p := fun q => !tySame q.k q.ds q0.k q0.ds) HC2.out (HL.out.ext ValC.ext hk1.1.out) HA2.out (HF2.out hk1)).mono ?_); rintro e w2 ⟨rfl, he⟩; have hk2 := KB4.ext he hk1; clear he))
    have HK := Aside.mk hk2
    go_wp2_with fail
    refine bodyPost_ret (v := .tuple #[.agg #[.int .i64 0, .slice none 0 0, .slice none 0 0, .slice none 0 0], .int .i64 12]) (by simp [results, Tryz.results42, go_sem, hk2]) rfl ⟨?_, ext_set4 HK.out.1.out (Nat.le_succ _) _ _ _ _⟩
    rw [HM.out]
    exact ⟨_, rfl, VO.zero _ _⟩
/-- And the first element's type. -/
abbrev K9 (w : World) (s : Value) (b0 o0 : Nat) (y0 y1 : Value) (W : World) : Prop := KB4 w s W ∧ Aside (b0 < w.heap.size) ∧ W.cell? ⟨b0, o0, none⟩ = some y0 ∧ W.cell? ⟨b0, o0 + 1, none⟩ = some y1
theorem K9.ext {w w1 w2 : World} {s y0 y1 : Value} {b0 o0 : Nat} (e : Ext w1 w2) (h : K9 w s b0 o0 y0 y1 w1) : K9 w s b0 o0 y0 y1 w2 := ⟨KB4.ext e h.1, h.2.1, e.cell h.2.2.1, e.cell h.2.2.2⟩
theorem K9.far {w w1 : World} {s y0 y1 : Value} {b0 o0 : Nat} (h : K9 w s b0 o0 y0 y1 w1) {g : Nat} (hg : w.heap.size + 2 ≤ g) (j : Nat) (v : Value) : K9 w s b0 o0 y0 y1 (w1.setCell ⟨g, j, none⟩ v) :=
  ⟨h.1.far hg j v, h.2.1, cell_other h.2.2.1 (by have := h.2.1.out; omega), cell_other h.2.2.2 (by have := h.2.1.out; omega)⟩
set_option maxRecDepth 10000 in
set_option maxHeartbeats 16000000 in
theorem pack_ok {w : World} {v : Value} {l : List Vq} {q0 : Vq} {m : Vq × Int} (h : LV w v l) (hm : packR l = m) (hn8 : 1 ≤ l.length ∧ l.length ≤ 8) (ha : (l.any fun q => !valOk q) = false) (hq : l[0]? = some q0)
    (hb : (l.any fun q => !tySame q.k q.ds q0.k q0.ds) = false) (hd3 : q0.ds.length ≠ 3) :
    Calls Tryz.prog 42 #[v] w fun e w' => ValP w.heap.size w' m e ∧ Ext w w' := by
  have HM : Aside (m = (⟨q0.k, (l.length : Int) :: q0.ds, l.flatMap (·.nums), l.flatMap (·.bits)⟩, 0)) := ⟨by rw [← hm]; exact packR_ok (by omega) ha (by omega) hq hb hd3⟩
  obtain ⟨A, c, rfl, hc, hl30⟩ := h.form
  obtain ⟨b0, o0, d, y, z, rfl, hc0, hc1, hc2, hc3, hvv⟩ := LV.at' h 0 hq
  simp only [Nat.zero_mul, Nat.add_zero] at hc0 hc1
  obtain ⟨-, ht2, -, -⟩ := hvv.ty
  have HT2 := Aside.mk ht2
  obtain ⟨u, e, hi⟩ := ht2
  simp only [Value.agg.injEq, Array.mk.injEq, List.cons.injEq, true_and, and_true] at e
  subst e
  obtain ⟨D0, c0, rfl, _⟩ := hi.form
  have HL := Aside.mk h
  obtain ⟨n, hn⟩ : ∃ n, l.length = n := ⟨_, rfl⟩
  have HN := Aside.mk hn
  obtain ⟨n0, hn0⟩ : ∃ n, q0.ds.length = n := ⟨_, rfl⟩
  have HN0 := Aside.mk hn0
  rw [hn] at HL hc hl30 hn8 ⊢
  rw [hn0] at hc1 HT2
  have HC0 := Aside.mk (And.intro hc0 hc1)
  have HQ0 := Aside.mk hq
  have HA := Aside.mk ha
  have HC1 : Aside (∀ args w, Sem.run Tryz.prog (callFunc 92 args) w = .ok (.enter 92 args) w) := ⟨by intro args w; simp [go_sem]⟩
  have HC2 : Aside (∀ args w, Sem.run Tryz.prog (callFunc 93 args) w = .ok (.enter 93 args) w) := ⟨by intro args w; simp [go_sem]⟩
  have HF1 : Aside (∀ {W : World} w' x q, Ext W w' → VV w' x q → Calls Tryz.prog 92 #[x] w' fun e w2 => e = .returned (.bool (!valOk q)) ∧ Ext w' w2) := ⟨fun w' x q _ h => pack1_calls h rfl⟩
  have HF2 : Aside (∀ {W : World}, KB4 w (.slice (some ⟨b0, o0, none⟩) n c) W → ∀ w' x q, Ext W w' → VV w' x q → Calls Tryz.prog 93 #[x, .pointer (some ⟨w.heap.size, 0, none⟩)] w' fun e w2 => e = .returned (.bool (!tySame q.k q.ds q0.k q0.ds)) ∧ Ext w' w2) :=
    ⟨fun hk w' x q e h => pack2_calls h (e.cell hk.2.1) (HL.out.ext ValC.ext (hk.1.out.trans e)) HQ0.out rfl⟩
  have hk0 := KB4.init w (.slice (some ⟨b0, o0, none⟩) n c) (.int .i64 0) (.slice none 0 0) (.slice none 0 0) (.slice none 0 0) 66 29
  have h64' : ¬ (64 : Int) < (n : Int) := by omega
  have h8' : ¬ (8 : Int) < (n : Int) := by omega
  have h0' : ((n : Int) == 0) = false := beq_eq_false_iff_ne.2 (by omega)
  have i1 : (0 : Int) < (n : Int) := by omega
  have hlp : 0 < n := by omega
  have HA2 := Aside.mk hb
  have HDL : Aside (q0.ds.length ≤ 1073741823) := ⟨by have := (valOk_dims (any_not_valOk ha hq)).1; omega⟩
  have HN1 : Aside (((n : Int) :: q0.ds).length = n0 + 1) := ⟨by simp [hn0]⟩
  have HVAL : Aside (∀ (j : Nat) q, l[j]? = some q → valOk q = true) := ⟨fun j q hq => any_not_valOk ha hq⟩
  have h3' : ((n0 : Int) == 3) = false := beq_eq_false_iff_ne.2 (by omega)
  have h8d : decide ((8 : Int) < (n : Int)) = false := decide_eq_false h8'
  clear h hm ha hq hb hc0 hc1 hc2 hc3 hvv hi hn hn0 hd3
  go_enter Tryz.func42, Tryz.ntmps42
  go_upto_region 9 with (first | (go_at_call 91; (with_reducible refine (containsVal_calls (p := fun q => !valOk q) HC1.out (HL.out.ext ValC.ext hk0.1.out) HA.out HF1.out).mono ?_); rintro e w1 ⟨rfl, he⟩; have hk1 := KB4.ext he hk0; have hcd := hk1.1.out.cell HC0.out.2; have hck := hk1.1.out.cell HC0.out.1; clear he) | (go_at_call 91; (with_reducible refine (containsValC_calls (p := fun q => !tySame q.k q.ds q0.k q0.ds) HC2.out (HL.out.ext ValC.ext hk1.1.out) HA2.out (HF2.out hk1)).mono ?_); rintro e w2 ⟨rfl, he⟩; have hk2 := KB4.ext he hk1; clear he))
  have hk2d : K9 w (.slice (some ⟨b0, o0, none⟩) n c) b0 o0 (.int .i64 q0.k) (.slice D0 n0 c0) w2.drew := K9.ext ((Ext.refl _).drew) ⟨hk2, ⟨World.block_lt_of_cell? _ _ HC0.out.1⟩, hk2.1.out.cell HC0.out.1, hk2.1.out.cell HC0.out.2⟩
  have HLT2 := Aside.mk hk2.lt
  clear hk0 hk1 hcd hck
  go_cut [4] from 40 to 47 (fun s4 wx => FCut w (fun w' => K9 w (.slice (some ⟨b0, o0, none⟩) n c) b0 o0 (.int .i64 q0.k) (.slice D0 n0 c0) w') 2 q0.k (n0 + 1) ((n : Int) :: q0.ds) s4 wx)
  case first =>
    go_wp2
    go_region_held3 (fun w' => K9 w (.slice (some ⟨b0, o0, none⟩) n c) b0 o0 (.int .i64 q0.k) (.slice D0 n0 c0) w') (first | assumption | exact K9.ext (by assumption) (by assumption) | exact K9.ext ((Ext.refl _).alloc _) (by assumption) | exact (((K9.far (by assumption) HLT2.out _ _).far HLT2.out _ _).far HLT2.out _ _).far HLT2.out _ _) ((go_at_call 94; (with_reducible refine (outer_calls (n := (n : Int)) (HT2.out.ext (Aside.out (And.left (And.left (show K9 w (.slice (some ⟨b0, o0, none⟩) n c) b0 o0 (.int .i64 q0.k) (.slice D0 n0 c0) _ from by assumption))))) HDL.out).mono ?_); rintro e w3 ⟨r3, rfl, hr, he3⟩; have hk3 := K9.ext he3 (show K9 w (.slice (some ⟨b0, o0, none⟩) n c) b0 o0 (.int .i64 q0.k) (.slice D0 n0 c0) _ from by assumption); obtain ⟨A5, c5, rfl, _⟩ := hr.sv.form; rw [HN1.out] at hr ⊢; have HR1 := Aside.mk (hr.mono (b' := w.heap.size + 2) (KB4.lt (And.left (show K9 w (.slice (some ⟨b0, o0, none⟩) n c) b0 o0 (.int .i64 q0.k) (.slice D0 n0 c0) _ from by assumption)))); have HE1 := Aside.mk he3; have hce := he3.cells; have hfr := he3.frees; clear hr he3))
    all_goals
      have HK3 := Aside.mk hk3
      go_wp2
      go_meet
      first
        | ((with_reducible refine FCut.new (K9.ext ((Ext.refl _).alloc _) HK3.out) HR1.out ?_); exact KB4.lt HK3.out.1)
        | ((with_reducible refine FCut.old (z0 := .int .i64 0) (z1 := .slice none 0 0) (z2 := .slice none 0 0) (z3 := .slice none 0 0) ?_ HR1.out ?_ ?_) <;> first | exact HLT2.out | exact (((K9.far HK3.out HLT2.out _ _).far HLT2.out _ _).far HLT2.out _ _).far HLT2.out _ _ | (repeat (first | with_reducible refine lit_ext HE1 ?_ | with_reducible refine lit_drew ?_ | ((with_reducible refine lit_new ?_); simp; done) | with_reducible refine lit_old ?_)))
  case rest =>
    clear hk2 hk2d
    obtain ⟨g, DA, dc, rfl, ⟨hk0, -⟩, hb0, hg2, hne, hso⟩ := hcut
    have HROW0 : Aside (RdRows w.heap.size g ((n : Int) :: q0.ds) [] (.slice DA (n0 + 1) dc) (.slice none 0 0) (.slice none 0 0) (.slice none 0 0) [] [] wc) := ⟨hg2, hb0.lt, hso, hne, SO.nil, (fun h => by cases h), SO.nil, SO.nil⟩
    have HG := Aside.mk hg2
    clear hne hso hg2
    go_wp2_with fail
    go_loopw [50] (fun i wr => ∃ (j : Nat) (NA : Option Addr) (nn nc : Nat) (BA : Option Addr) (bn bc : Nat), j ≤ n ∧ nn ≤ 512 * j ∧ bn ≤ 512 * j ∧ i = .int .i64 (j : Int) ∧ KB4 w (.slice (some ⟨b0, o0, none⟩) n c) wr ∧ B4 wr g (.int .i64 q0.k) (.slice DA (n0 + 1) dc) (.slice NA nn nc) (.slice BA bn bc) ∧
      Aside (∃ ns bts, ns = (l.take j).flatMap (·.nums) ∧ bts = (l.take j).flatMap (·.bits) ∧ ns.length = nn ∧ bts.length = bn ∧ RdRows w.heap.size g ((n : Int) :: q0.ds) [] (.slice DA (n0 + 1) dc) (.slice none 0 0) (.slice NA nn nc) (.slice BA bn bc) ns bts wr)) (fun i _ => n - (intOf i).toNat)
    case atStart => exact ⟨0, none, 0, 0, none, 0, 0, by omega, by omega, by omega, rfl, hk0, hb0, ⟨[], [], by simp, by simp, rfl, rfl, HROW0.out⟩⟩
    case round =>
      clear hk0 hb0 HROW0
      obtain ⟨j, NA, nn, nc, BA, bn, bc, hj, hnj, hbj, rfl, hk0, hb0, HS⟩ := hrel
      obtain ⟨ns, bts, hns, hbs, hnn, hbn, hrow⟩ := HS.out
      have HNS := Aside.mk hns
      have HBS := Aside.mk hbs
      have HNN := Aside.mk hnn
      have HBN := Aside.mk hbn
      have HROW := Aside.mk hrow
      clear HS hns hbs hnn hbn hrow
      by_cases hlt : j < n
      · obtain ⟨q, hq⟩ : ∃ q, l[j]? = some q := ⟨l[j]'(by rw [HN.out]; exact hlt), List.getElem?_eq_getElem _⟩
        obtain ⟨b1, o1, d1, y1, z1, eA, hq0, hq1, hq2, hq3, hvq⟩ := LV.at' (SV.ext ValC.ext HL.out hk0.1.out) j hq
        simp only [Option.some.injEq, Addr.mk.injEq, and_true] at eA
        obtain ⟨rfl, rfl⟩ := eA
        obtain ⟨DQ, cq1, AQ, cq2, BQ, cq3, ev⟩ := hvq.form
        simp only [Value.agg.injEq, Array.mk.injEq, List.cons.injEq, true_and, and_true] at ev
        obtain ⟨rfl, rfl, rfl⟩ := ev
        have HOKQ := Aside.mk (HVAL.out j q hq)
        have hql := valOk_len HOKQ.out
        have HNS2 := Aside.mk (flat_snoc (f := (·.nums)) hq)
        have HBS2 := Aside.mk (flat_snoc (f := (·.bits)) hq)
        obtain ⟨lq1, hl1⟩ : ∃ n, q.ds.length = n := ⟨_, rfl⟩
        obtain ⟨lq2, hl2⟩ : ∃ n, q.nums.length = n := ⟨_, rfl⟩
        obtain ⟨lq3, hl3⟩ : ∃ n, q.bits.length = n := ⟨_, rfl⟩
        rw [hl1] at hq1 hvq
        rw [hl2] at hq2 hvq hql
        rw [hl3] at hq3 hvq hql
        have HL1 := Aside.mk hl1
        have HL2 := Aside.mk hl2
        have HL3 := Aside.mk hl3
        have HVQ := Aside.mk (hvq.ext ((Ext.refl wr).alloc (.cells #[.int .i64 q.k, .slice DQ lq1 cq1, .slice AQ lq2 cq2, .slice BQ lq3 cq3] 29)))
        have HLBN : Aside (ns.length + q.nums.length ≤ 1073741824) := ⟨by rw [HNN.out, hl2]; omega⟩
        have HLBB : Aside (bts.length + q.bits.length ≤ 1073741824) := ⟨by rw [HBN.out, hl3]; omega⟩
        have HLN2 : Aside ((ns ++ q.nums).length = nn + lq2) := ⟨by simp [HNN.out, hl2]⟩
        have HLB2 : Aside ((bts ++ q.bits).length = bn + lq3) := ⟨by simp [HBN.out, hl3]⟩
        obtain ⟨gb, hgb⟩ : ∃ g, wr.heap.size = g := ⟨_, rfl⟩
        have HGB := Aside.mk hgb
        have hbq := B4.new (w := wr) (g := gb) hgb.symm (.int .i64 q.k) (.slice DQ lq1 cq1) (.slice AQ lq2 cq2) (.slice BQ lq3 cq3) 29
        have HNE1 := Aside.mk (HROW.out.nums.new_ne hgb)
        have HNE2 := Aside.mk (HROW.out.bits.new_ne hgb)
        have hp0 : (0 : Int) ≤ (j : Int) := Int.natCast_nonneg _
        have hp1 : (j : Int) < (n : Int) := by omega
        have HJ := Aside.mk (And.intro hnj (And.intro hbj hql))
        clear hq hvq hl1 hl2 hl3 hnj hbj hql
        go_wp2_with (go_at_call 66; (with_reducible refine (own_calls HVQ.out).mono ?_); rintro e w3 ⟨r3, rfl, hr, he⟩; obtain ⟨D3, d3, A3, a3, B3, b3, rfl⟩ := hr.vv.form; rw [HL1.out, HL2.out, HL3.out] at hr ⊢; have HVO := Aside.mk hr; have hbx := hbq.ext he; have E3 := Aside.mk (((Ext.refl wr).alloc (.cells #[.int .i64 q.k, .slice DQ lq1 cq1, .slice AQ lq2 cq2, .slice BQ lq3 cq3] 29)).trans he); clear hr he)
        have E4 := Aside.mk ((ext_set4 E3.out (Nat.le_of_eq HGB.out) (.int .i64 q.k) (.slice D3 lq1 d3) (.slice A3 lq2 a3) (.slice B3 lq3 b3)).drew)
        have hb4 := hb0.ext E4.out
        have hk4 := KB4.ext E4.out hk0
        have hx4 : B4 (((((w3.setCell ⟨gb, 0, none⟩ (.int .i64 q.k)).setCell ⟨gb, 1, none⟩ (.slice D3 lq1 d3)).setCell ⟨gb, 2, none⟩ (.slice A3 lq2 a3)).setCell ⟨gb, 3, none⟩ (.slice B3 lq3 b3)).drew) gb (.int .i64 q.k) (.slice D3 lq1 d3) (.slice A3 lq2 a3) (.slice B3 lq3 b3) := ((((hbx.put 0 _).put 1 _).put 2 _).put 3 _).ext ((Ext.refl _).drew)
        have HROW4 := Aside.mk (HROW.out.ext E4.out)
        have HSZ : Aside ((wr.alloc (.cells #[.int .i64 q.k, .slice DQ lq1 cq1, .slice AQ lq2 cq2, .slice BQ lq3 cq3] 29)).heap.size = gb + 1) := ⟨by rw [← HGB.out]; simp⟩
        have HVO4 := Aside.mk ((HVO.out.set4 (g := gb) (by rw [HSZ.out]; exact Nat.lt_succ_self _) (.int .i64 q.k) (.slice D3 lq1 d3) (.slice A3 lq2 a3) (.slice B3 lq3 b3)).ext ((Ext.refl _).drew))
        have HON := Aside.mk HVO4.out.parts.2.1
        have HOB := Aside.mk HVO4.out.parts.2.2
        have HBG : Aside (g + 1 ≤ (wr.alloc (.cells #[.int .i64 q.k, .slice DQ lq1 cq1, .slice AQ lq2 cq2, .slice BQ lq3 cq3] 29)).heap.size) := ⟨by rw [HSZ.out, ← HGB.out]; exact Nat.succ_le_succ (Nat.le_of_lt hb0.lt)⟩
        have HSN := Aside.mk (HON.out.sv.mono (fun _ _ h => RatO.mono h HBG.out))
        have HSB := Aside.mk HOB.out.sv
        have tokA : True := trivial
        clear hb0 hk0 hbq hbx
        go_region_law (first | (have _t := tokA; refine step_append_so (R := RatO (g + 1)) (W := ((((w3.setCell ⟨gb, 0, none⟩ (.int .i64 q.k)).setCell ⟨gb, 1, none⟩ (.slice D3 lq1 d3)).setCell ⟨gb, 2, none⟩ (.slice A3 lq2 a3)).setCell ⟨gb, 3, none⟩ (.slice B3 lq3 b3)).drew) (g + 1) elemRat rfl (.tmp 57) (.tmp 59) rfl (.slice NA nn nc) (.slice A3 lq2 a3) ns q.nums HROW4.out.nums HSN.out RatO.one (fun _ hg => RatO.grown HROW4.out.nums (by decide) hg) (by first | (simp [Act.eval]; done) | simp [Act.eval, Act.put]) (by first | (simp [Act.eval]; done) | simp [Act.eval, Act.put]) HROW4.out.lt HLBN.out ?_; rintro v1 w6 ho hg; obtain ⟨A5, c5, rfl, _⟩ := ho.sv.form; rw [HLN2.out] at ho ⊢; have hb6 := hb4.below (Nat.lt_succ_self _) (Below.grown (Below.refl (g + 1) _) hg HROW4.out.lt HROW4.out.nums.low); have hk6 := hk4.below (Below.mono (Below.grown (Below.refl (g + 1) _) hg HROW4.out.lt HROW4.out.nums.low) (Nat.le_succ_of_le HG.out)); have hx6 := hx4.grown hg HNE1.out; have HSB6 := Aside.mk (SO.other HOB.out HROW4.out.nums (by decide) hg (fun _ _ h => h)).sv; have HROW6 := Aside.mk (HROW4.out.num hg ho); have tokN := _t; clear tokA _t ho hg hb4 hk4 hx4) | (have _t := tokN; refine step_append_so (R := BitC) (W := w6) (g + 1) elemBit rfl (.tmp 62) (.tmp 64) rfl (.slice BA bn bc) (.slice B3 lq3 b3) bts q.bits HROW6.out.bits HSB6.out BitC.one (fun _ _ _ _ h => h) (by first | (simp [Act.eval]; done) | simp [Act.eval, Act.put]) (by first | (simp [Act.eval]; done) | simp [Act.eval, Act.put]) HROW6.out.lt HLBB.out ?_; rintro v1 w8 ho hg; obtain ⟨A6, c6, rfl, _⟩ := ho.sv.form; rw [HLB2.out] at ho ⊢; have hb8 := hb6.below (Nat.lt_succ_self _) (Below.grown (Below.refl (g + 1) _) hg HROW6.out.lt HROW6.out.bits.low); have hk8 := hk6.below (Below.mono (Below.grown (Below.refl (g + 1) _) hg HROW6.out.lt HROW6.out.bits.low) (Nat.le_succ_of_le HG.out)); have HROW8 := Aside.mk (HROW6.out.bit hg ho); clear tokN _t ho hg hb6 hk6 hx6) | (have _t := tokA; refine step_append_so (R := BitC) (W := ((((w3.setCell ⟨gb, 0, none⟩ (.int .i64 q.k)).setCell ⟨gb, 1, none⟩ (.slice D3 lq1 d3)).setCell ⟨gb, 2, none⟩ (.slice A3 lq2 a3)).setCell ⟨gb, 3, none⟩ (.slice B3 lq3 b3)).drew) (g + 1) elemBit rfl (.tmp 62) (.tmp 64) rfl (.slice BA bn bc) (.slice B3 lq3 b3) bts q.bits HROW4.out.bits HSB.out BitC.one (fun _ _ _ _ h => h) (by first | (simp [Act.eval]; done) | simp [Act.eval, Act.put]) (by first | (simp [Act.eval]; done) | simp [Act.eval, Act.put]) HROW4.out.lt HLBB.out ?_; rintro v1 w6 ho hg; obtain ⟨A6, c6, rfl, _⟩ := ho.sv.form; rw [HLB2.out] at ho ⊢; have hb6 := hb4.below (Nat.lt_succ_self _) (Below.grown (Below.refl (g + 1) _) hg HROW4.out.lt HROW4.out.bits.low); have hk6 := hk4.below (Below.mono (Below.grown (Below.refl (g + 1) _) hg HROW4.out.lt HROW4.out.bits.low) (Nat.le_succ_of_le HG.out)); have hx6 := hx4.grown hg HNE2.out; have HSN6 := Aside.mk ((SO.other HON.out HROW4.out.bits (by decide) hg (RatO.grown HROW4.out.bits (by decide) hg)).sv.mono (fun _ _ h => RatO.mono h HBG.out)); have HROW6 := Aside.mk (HROW4.out.bit hg ho); have tokB := _t; clear tokA _t ho hg hb4 hk4 hx4) | (have _t := tokB; refine step_append_so (R := RatO (g + 1)) (W := w6) (g + 1) elemRat rfl (.tmp 57) (.tmp 59) rfl (.slice NA nn nc) (.slice A3 lq2 a3) ns q.nums HROW6.out.nums HSN6.out RatO.one (fun _ hg => RatO.grown HROW6.out.nums (by decide) hg) (by first | (simp [Act.eval]; done) | simp [Act.eval, Act.put]) (by first | (simp [Act.eval]; done) | simp [Act.eval, Act.put]) HROW6.out.lt HLBN.out ?_; rintro v1 w8 ho hg; obtain ⟨A5, c5, rfl, _⟩ := ho.sv.form; rw [HLN2.out] at ho ⊢; have hb8 := hb6.below (Nat.lt_succ_self _) (Below.grown (Below.refl (g + 1) _) hg HROW6.out.lt HROW6.out.nums.low); have hk8 := hk6.below (Below.mono (Below.grown (Below.refl (g + 1) _) hg HROW6.out.lt HROW6.out.nums.low) (Nat.le_succ_of_le HG.out)); have HROW8 := Aside.mk (HROW6.out.num hg ho); clear tokB _t ho hg hb6 hk6 hx6))
        all_goals
          have HB8 := Aside.mk hb8
          have HK8 := Aside.mk hk8
          clear hb8 hk8
          have hb8 := HB8.out
          go_wp2_with fail
          go_roundw
          case rel => exact ⟨j + 1, A5, nn + lq2, c5, A6, bn + lq3, c6, by omega, by have := HJ.out; omega, by have := HJ.out; omega, by go_num, (HK8.out.far HG.out _ _).far HG.out _ _, (HB8.out.put 2 _).put 3 _, ⟨_, _, by rw [HNS2.out, ← HNS.out], by rw [HBS2.out, ← HBS.out], HLN2.out, HLB2.out, (HROW8.out.set 2 _).set 3 _⟩⟩
          case measure => simp [intOf]; omega
      · have hjn : j = n := by omega
        have hp1 : ¬ (j : Int) < (n : Int) := by omega
        have HTN : Aside (l.take j = l) := ⟨by rw [hjn, ← HN.out, List.take_length]⟩
        have HK := Aside.mk hk0
        go_wp2_with fail
        refine bodyPost_ret (v := .tuple #[.agg #[.int .i64 q0.k, .slice DA (n0 + 1) dc, .slice NA nn nc, .slice BA bn bc], .int .i64 0]) (by simp [results, Tryz.results42, go_sem, hk0]) rfl ⟨?_, ext_set4 HK.out.1.out (Nat.le_succ _) _ _ _ _⟩
        rw [HM.out]
        have hns := HNS.out
        have hbs := HBS.out
        rw [HTN.out] at hns hbs
        have hrow := HROW.out
        rw [hns, hbs, ← HN.out] at hrow
        refine ⟨_, rfl, _, _, _, rfl, ?_, ?_, ?_⟩
        · exact (hrow.dims.set4 (Nat.lt_succ_self _) _ _ _ _ (fun _ _ _ _ _ _ h => h)).mono (by omega)
        · exact ((hrow.nums.set4 (Nat.lt_succ_of_lt (Nat.lt_of_lt_of_le (Nat.lt_succ_self _) HG.out)) _ _ _ _ (fun w p hp u c a h => RatO.set hp u c a h)).mono (by have := HG.out; omega)).monoR (fun _ _ h => h.mono (by have := HG.out; omega))
        · exact ((hrow.bits.set4 (Nat.lt_succ_of_lt (Nat.lt_of_lt_of_le (Nat.lt_succ_self _) HG.out)) _ _ _ _ (fun _ _ _ _ _ _ h => h)).mono (by have := HG.out; omega))
end Go.Proofs.YtcbaipnphepbeaaGreatDoor
