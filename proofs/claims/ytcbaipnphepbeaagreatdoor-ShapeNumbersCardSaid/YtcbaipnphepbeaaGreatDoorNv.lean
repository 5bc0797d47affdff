/- Contracts of fluxionlaw03: mod, tame. -/
import Derived.Test.YtcbaipnphepbeaaGreatDoorNr
namespace Go.Proofs.YtcbaipnphepbeaaGreatDoor
open Go.RowKit
attribute [local go_sem ↓] Go.wp_at_zero Go.wp_at_succ

theorem u64_nonneg (x : Int) : 0 ≤ IntKind.u64.wrap x := by
  simp only [IntKind.wrap, IntKind.bits, IntKind.signed]
  exact Int.emod_nonneg _ (by decide)
theorem mod_calls {w : World} {x n : Int} (hn : 1 ≤ n) (hn2 : n ≤ 1000000) :
    Calls Tryz.prog 31 #[.int .i64 x, .int .i64 n] w fun e w' => ∃ r : Int, e = .returned (.int .i64 r) ∧ 0 ≤ r ∧ r < n ∧ w = w' := by
  have HQ := Aside.mk (u64_nonneg x)
  obtain ⟨q, hq⟩ : ∃ q, IntKind.u64.wrap x = q := ⟨_, rfl⟩
  rw [hq] at HQ
  have hw : IntKind.u64.wrap n = n := by simp [IntKind.wrap, IntKind.bits, IntKind.signed]; omega
  have h1 : 0 ≤ q.tmod n := Int.tmod_nonneg _ HQ.out
  have h2 : q.tmod n < n := Int.tmod_lt_of_pos _ (by omega)
  have hr : wrap64 (q.tmod n) = q.tmod n := wrap64_id (by omega) (by omega)
  have H := Aside.mk (And.intro h1 h2)
  obtain ⟨r, hrr⟩ : ∃ r, q.tmod n = r := ⟨_, rfl⟩
  rw [hrr] at H hr
  have HR := Aside.mk hr
  clear h1 h2 hr
  go_enter Tryz.func31, Tryz.ntmps31
  go_wp2
  go_ret
  exact ⟨r, by simp [HR.out], H.out.1, H.out.2, rfl⟩
/-- A struct of two cells that can be stored to, in block g. -/
abbrev B2 (w : World) (g : Nat) (x0 x1 : Value) : Prop :=
  (w.cell? ⟨g, 0, none⟩ = some x0 ∧ w.cell? ⟨g, 1, none⟩ = some x1) ∧ (w.frozen? ⟨g, 0, none⟩ = false ∧ w.frozen? ⟨g, 1, none⟩ = false)
theorem B2.lt {w : World} {g : Nat} {x0 x1 : Value} (h : B2 w g x0 x1) : g < w.heap.size := World.block_lt_of_cell? w ⟨g, 0, none⟩ h.1.1
theorem B2.below {w w1 : World} {g n : Nat} {x0 x1 : Value} (h : B2 w g x0 x1) (hg : g < n) (b : Below n w w1) : B2 w1 g x0 x1 := by
  obtain ⟨⟨h1, h2⟩, f1, f2⟩ := h
  have hc : ∀ {j : Nat} {v : Value}, w.cell? ⟨g, j, none⟩ = some v → w1.cell? ⟨g, j, none⟩ = some v := fun h => (Below.cell b hg).trans h
  have hf : ∀ {j : Nat}, w.frozen? ⟨g, j, none⟩ = false → w1.frozen? ⟨g, j, none⟩ = false := fun h => (Below.frozen b hg).trans h
  exact ⟨⟨hc h1, hc h2⟩, hf f1, hf f2⟩
theorem B2.ext {w w1 : World} {g : Nat} {x0 x1 : Value} (h : B2 w g x0 x1) (e : Ext w w1) : B2 w1 g x0 x1 := h.below h.lt e
theorem B2.new {w : World} {g : Nat} (hg : g = w.heap.size) (x0 x1 : Value) (t : TypeId) : B2 (w.alloc (.cells #[x0, x1] t)) g x0 x1 := by
  subst hg
  exact ⟨⟨cell_new rfl rfl, cell_new rfl rfl⟩, by simp, by simp⟩
theorem B2.put {w : World} {g : Nat} {x0 x1 : Value} (h : B2 w g x0 x1) (j : Nat) (v : Value) : B2 (w.setCell ⟨g, j, none⟩ v) g (if j = 0 then v else x0) (if j = 1 then v else x1) := by
  obtain ⟨⟨h1, h2⟩, f1, f2⟩ := h
  have hc : ∀ {k : Nat} {u : Value}, w.cell? ⟨g, k, none⟩ = some u → (w.setCell ⟨g, j, none⟩ v).cell? ⟨g, k, none⟩ = some (if j = k then v else u) := by
    intro k u h
    by_cases hk : j = k
    · subst hk; rw [if_pos rfl]; exact World.cell?_setCell_same _ _ v h
    · rw [if_neg hk]; exact (World.cell?_setCell_other _ _ _ v (by intro hh; injection hh with _ hh; omega)).trans h
  exact ⟨⟨hc h1, hc h2⟩, by rw [World.frozen?_setCell]; exact f1, by rw [World.frozen?_setCell]; exact f2⟩
theorem Keep2.lt {w w1 : World} {x0 x1 : Value} (h : Keep2 w x0 x1 w1) : w.heap.size + 2 ≤ w1.heap.size := World.block_lt_of_cell? w1 ⟨w.heap.size + 1, 0, none⟩ h.2.2.2.1.1
theorem Keep2.below {w w1 w2 : World} {x0 x1 : Value} (h : Keep2 w x0 x1 w1) (b : Below (w.heap.size + 2) w1 w2) : Keep2 w x0 x1 w2 := by
  obtain ⟨h0, h1, h2, h5, h6⟩ := h
  have hc : ∀ {g j : Nat} {v : Value}, g < w.heap.size + 2 → w1.cell? ⟨g, j, none⟩ = some v → w2.cell? ⟨g, j, none⟩ = some v := fun hg h => (Below.cell b hg).trans h
  have hf : ∀ {g j : Nat}, g < w.heap.size + 2 → w1.frozen? ⟨g, j, none⟩ = false → w2.frozen? ⟨g, j, none⟩ = false := fun hg h => (Below.frozen b hg).trans h
  have hF : ∀ {g j : Nat}, g < w.heap.size + 2 → Fits w1 ⟨g, j, none⟩ → Fits w2 ⟨g, j, none⟩ := fun hg h => Fits.of (hc hg h.1) (hf hg h.2)
  exact ⟨⟨Below.trans h0.out (Below.mono b (by omega))⟩, hc (by omega) h1, hc (by omega) h2, hF (by omega) h5, hF (by omega) h6⟩
theorem Keep2.far {w w1 : World} {x0 x1 : Value} (h : Keep2 w x0 x1 w1) {g : Nat} (hg : w.heap.size + 2 ≤ g) (j : Nat) (v : Value) : Keep2 w x0 x1 (w1.setCell ⟨g, j, none⟩ v) := h.below (Below.setCell (Below.refl _ _) hg v)
theorem RawL.at1 {w : World} {A : Option Addr} {n c : Nat} {l : List Int} (h : RawL 1 IntC w (.slice A n c) l) {j : Nat} (hj : j < l.length) : ∃ ad x, A = some ad ∧ l[j]? = some x ∧ w.cell? (ad.add j) = some (.int .i64 x) := by
  obtain ⟨A', c', xs, e, _, _, h4, h5⟩ := h
  injection e with e1 e2 e3
  subst e1
  obtain ⟨cs, h6, h7, h8⟩ := h5.get j (List.getElem?_eq_getElem hj)
  obtain rfl : cs = [.int .i64 l[j]] := h7
  have := h8 0 _ rfl
  rw [Nat.mul_one, Nat.add_zero] at this
  obtain ⟨ad, h9, h10⟩ := h4 j _ this
  exact ⟨ad, _, h9, List.getElem?_eq_getElem hj, h10⟩
/-- Sizes from 1 to 8. -/
def Small (es : List Int) : Prop := ∀ d ∈ es, 1 ≤ d ∧ d ≤ 8
/-- A type that tame makes. -/
def Tamed (m : Int) (b : Nat) (w' : World) (e : Ending) : Prop := ∃ (k : Int) (es : List Int) (D : Option Addr) (c : Nat), e = .returned (.agg #[.int .i64 k, .slice D es.length c]) ∧ (k = 1 ∨ k = 2) ∧ (es.length : Int) ≤ m ∧ Small es ∧ SO b 3 1 IntC w' (.slice D es.length c) es
set_option maxRecDepth 10000 in
set_option maxHeartbeats 8000000 in
theorem tame_calls {w : World} {x : Value} {k m : Int} {ds : List Int} (h : TL w x k ds) (hm0 : 0 ≤ m) (hm : m ≤ 8) :
    Calls Tryz.prog 24 #[x, .int .i64 m] w fun e w' => Tamed m w.heap.size w' e ∧ Ext w w' := by
  obtain ⟨x, rfl, hi⟩ := h
  obtain ⟨n, hn⟩ : ∃ n, ds.length = n := ⟨_, rfl⟩
  have HI := Aside.mk hi
  have HN := Aside.mk hn
  have HM8 := Aside.mk hm
  obtain ⟨A, c, xs, rfl, hc, hl, _⟩ := hi
  rw [hn] at HI hc hl ⊢
  unfold maxLen at hl
  clear hn
  have HK0 : Aside (∀ i : Int, Keep2 w (.int .i64 k) (.slice A n c) (((w.alloc (.cells #[.int .i64 k, .slice A n c] 25)).alloc (.cells #[.int .i64 0, .slice none 0 0] 25)).alloc (.cells #[.int .i64 i, .slice none 0 0] 25))) :=
    ⟨fun i => ⟨⟨(((Ext.refl w).alloc _).alloc _).alloc _⟩, cell_old (cell_old (cell_new rfl rfl)), cell_old (cell_old (cell_new rfl rfl)), (fits_new (v := .int .i64 0) (by simp) rfl).ext ((Ext.refl _).alloc _), (fits_new (v := .slice none 0 0) (by simp) rfl).ext ((Ext.refl _).alloc _)⟩⟩
  have HB0 : Aside (∀ i : Int, B2 (((w.alloc (.cells #[.int .i64 k, .slice A n c] 25)).alloc (.cells #[.int .i64 0, .slice none 0 0] 25)).alloc (.cells #[.int .i64 i, .slice none 0 0] 25)) (w.heap.size + 2) (.int .i64 i) (.slice none 0 0)) :=
    ⟨fun i => B2.new (g := w.heap.size + 2) (by simp) (.int .i64 i) (.slice none 0 0) 25⟩
  have hk0 := HK0.out 1
  have hb0 := HB0.out 1
  go_enter Tryz.func24, Tryz.ntmps24
  go_wp2_with fail
  refine (mod_calls (by decide) (by decide)).mono ?_
  rintro e w1 ⟨r0, rfl, hr0, hr1, rfl⟩
  by_cases hr : r0 = 0
  · have hre : (r0 == 0) = true := by simp [hr]
    clear hr hr0 hr1
    go_wp2_with fail
    go_loopw [6] (fun i wr => ∃ (j : Nat) (NA : Option Addr) (cN : Nat), j ≤ n ∧ (j : Int) ≤ m ∧ i = .int .i64 (j : Int) ∧ Keep2 w (.int .i64 k) (.slice A n c) wr ∧ B2 wr (w.heap.size + 2) (.int .i64 2) (.slice NA j cN) ∧ Aside (∃ es, es.length = j ∧ Small es ∧ SO (w.heap.size + 2 + 1) 3 1 IntC wr (.slice NA j cN) es)) (fun i _ => n - (intOf i).toNat)
    case atStart => exact ⟨0, none, 0, by omega, by omega, rfl, (HK0.out 2), (HB0.out 2), ⟨[], rfl, (fun d h => by cases h), SO.nil⟩⟩
    case round =>
      clear hk0 hb0
      obtain ⟨j, NA, cN, hj, hjm, rfl, hk0, hb0, HS⟩ := hrel
      by_cases hlt : j < n ∧ (j : Int) < m
      · obtain ⟨hlt, hltm⟩ := hlt
        obtain ⟨es, hes, hsm, hro⟩ := HS.out
        obtain ⟨ad, x, rfl, -, hcell0⟩ := (HI.out.ext IntC.ext (hk0.1.out.drew)).at1 (j := j) (by rw [HN.out]; exact hlt)
        have hcell := hcell0
        obtain ⟨y, hy⟩ : ∃ y, IntKind.i64.wrap (x - 1) = y := ⟨_, rfl⟩
        have HRO := Aside.mk hro
        have HSM := Aside.mk hsm
        have HES := Aside.mk hes
        have HLB : Aside (es.length + [x].length ≤ 1073741824) := ⟨by have := HM8.out; simp; omega⟩
        have HLB2 : Aside (∀ d : Int, (es ++ [d]).length = j + 1) := ⟨fun d => by simp [HES.out]⟩
        have HCC : Aside (∀ args w, Sem.run Tryz.prog (callFunc 31 args) w = .ok (.enter 31 args) w) := ⟨by intro args w; simp [go_sem]⟩
        have hp0 : (0 : Int) ≤ (j : Int) := Int.natCast_nonneg _
        have hp1 : (j : Int) < (n : Int) := by omega
        have hb1 := hb0.ext ((Ext.refl wr).drew)
        have hk1 := Keep2.ext ((Ext.refl wr).drew) hk0
        clear HS hes hsm hro hcell0
        go_wp2_with fail
        go_region_law (first | (refine step_call (F := 31) (args := #[.tmp 32, .const (.int .i64 8)]) (types := #[3, 3]) HCC.out rfl rfl #[.int .i64 y, .int .i64 8] (by simp [Act.eval, Act.put]) (mod_calls (by decide) (by decide)) ?_; rintro e w3 ⟨r, rfl, hr0, hr1, rfl⟩; have HD8 : Aside (1 ≤ 1 + r ∧ 1 + r ≤ 8) := ⟨⟨by omega, by omega⟩⟩; have hwd : IntKind.i64.wrap (1 + r) = 1 + r := wrap_i64 _ (Int.le_trans (by decide) HD8.out.1) (Int.le_trans HD8.out.2 (by decide)); have hb3 := hb0.ext (((Ext.refl wr).alloc (.cells #[.int .i64 (1 + r)] 3)).drew); have hk3 := Keep2.ext (((Ext.refl wr).alloc (.cells #[.int .i64 (1 + r)] 3)).drew) hk0; have HRO3 := Aside.mk (HRO.out.ext IntC.ext (((Ext.refl wr).alloc (.cells #[.int .i64 (1 + r)] 3)).drew)); have HSB := Aside.mk ((SO.lit (e := 3) (R := IntC) wr [.int .i64 (1 + r)] [1 + r] (by simp) (rows_ints [1 + r] _)).sv.ext IntC.ext ((Ext.refl _).drew)); have HLT3 := Aside.mk (B2.lt hb3); clear hr0 hr1; refine ⟨_, rfl, ?_⟩) | (refine step_append_so (R := IntC) (W := (wr.alloc (.cells #[.int .i64 (1 + r)] 3)).drew) (w.heap.size + 2 + 1) elemInt rfl (.tmp 26) (.tmp 35) rfl (.slice NA j cN) (.slice (some ⟨wr.heap.size, 0, none⟩) 1 1) es [1 + r] HRO3.out HSB.out IntC.one (fun _ _ _ _ h => h) (by simp [Act.eval]) (by simp [Act.eval]) HLT3.out HLB.out ?_; rintro v1 w5 ho hg; obtain ⟨A5, c5, rfl, _⟩ := ho.sv.form; rw [HLB2.out] at ho ⊢; have hbel := Below.grown (Below.refl (w.heap.size + 2 + 1) _) hg HLT3.out HRO3.out.low; have hb5 := hb3.below (Nat.lt_succ_self _) hbel; have hk5 := hk3.below (Below.mono hbel (Nat.le_succ _)); have HRO5 := Aside.mk ho; clear ho hg hbel))
        all_goals
          have HB5 := Aside.mk hb5
          have HK5 := Aside.mk hk5
          clear hb0 hb1 hb3 hk0 hk1 hk3
          go_wp2_with fail
          go_roundw
          case rel => exact ⟨j + 1, A5, c5, by omega, by omega, by go_num, HK5.out.far (Nat.le_refl _) _ _, HB5.out.put 1 _, ⟨es ++ [1 + r], HLB2.out (1 + r), fun z hz => (List.mem_append.1 hz).elim (HSM.out z) (fun hz => by rw [List.mem_singleton.1 hz]; exact HD8.out), HRO5.out.set (Nat.lt_succ_self _) _ (fun _ _ h => h)⟩⟩
          case measure => simp [intOf]; omega
      · obtain ⟨es, hes, hsm, hro⟩ := HS.out
        subst hes
        have HSM := Aside.mk hsm
        have HRO := Aside.mk hro
        have HK := Aside.mk hk0
        have HJM := Aside.mk hjm
        have hor : n ≤ es.length ∨ m ≤ (es.length : Int) := by omega
        clear HS hsm hro hlt
        rcases hor with ho | ho
        · have hp1 : ¬ ((es.length : Int) < (n : Int)) := by omega
          go_wp2_with fail
          refine bodyPost_ret (v := .agg #[.int .i64 2, .slice NA es.length cN]) (by simp [results, Tryz.results24, go_sem, hk0]) rfl ⟨⟨2, es, NA, cN, rfl, by decide, HJM.out, HSM.out, ?_⟩, (HK.out.1.out.set (Nat.le_succ _) _).set (Nat.le_succ _) _⟩
          exact ((HRO.out.set (Nat.lt_succ_of_lt (Nat.lt_succ_self _)) _ (fun _ _ h => h)).set (Nat.lt_succ_of_lt (Nat.lt_succ_self _)) _ (fun _ _ h => h)).mono (by omega)
        · by_cases ho2 : (es.length : Int) < (n : Int)
          · have hp1 : ¬ ((es.length : Int) < m) := by omega
            go_wp2_with fail
            refine bodyPost_ret (v := .agg #[.int .i64 2, .slice NA es.length cN]) (by simp [results, Tryz.results24, go_sem, hk0]) rfl ⟨⟨2, es, NA, cN, rfl, by decide, HJM.out, HSM.out, ?_⟩, (HK.out.1.out.set (Nat.le_succ _) _).set (Nat.le_succ _) _⟩
            exact ((HRO.out.set (Nat.lt_succ_of_lt (Nat.lt_succ_self _)) _ (fun _ _ h => h)).set (Nat.lt_succ_of_lt (Nat.lt_succ_self _)) _ (fun _ _ h => h)).mono (by omega)
          · go_wp2_with fail
            refine bodyPost_ret (v := .agg #[.int .i64 2, .slice NA es.length cN]) (by simp [results, Tryz.results24, go_sem, hk0]) rfl ⟨⟨2, es, NA, cN, rfl, by decide, HJM.out, HSM.out, ?_⟩, (HK.out.1.out.set (Nat.le_succ _) _).set (Nat.le_succ _) _⟩
            exact ((HRO.out.set (Nat.lt_succ_of_lt (Nat.lt_succ_self _)) _ (fun _ _ h => h)).set (Nat.lt_succ_of_lt (Nat.lt_succ_self _)) _ (fun _ _ h => h)).mono (by omega)
  · have hre : (r0 == 0) = false := beq_eq_false_iff_ne.2 hr
    clear hr hr0 hr1
    go_wp2_with fail
    go_loopw [6] (fun i wr => ∃ (j : Nat) (NA : Option Addr) (cN : Nat), j ≤ n ∧ (j : Int) ≤ m ∧ i = .int .i64 (j : Int) ∧ Keep2 w (.int .i64 k) (.slice A n c) wr ∧ B2 wr (w.heap.size + 2) (.int .i64 1) (.slice NA j cN) ∧ Aside (∃ es, es.length = j ∧ Small es ∧ SO (w.heap.size + 2 + 1) 3 1 IntC wr (.slice NA j cN) es)) (fun i _ => n - (intOf i).toNat)
    case atStart => exact ⟨0, none, 0, by omega, by omega, rfl, hk0, hb0, ⟨[], rfl, (fun d h => by cases h), SO.nil⟩⟩
    case round =>
      clear hk0 hb0
      obtain ⟨j, NA, cN, hj, hjm, rfl, hk0, hb0, HS⟩ := hrel
      by_cases hlt : j < n ∧ (j : Int) < m
      · obtain ⟨hlt, hltm⟩ := hlt
        obtain ⟨es, hes, hsm, hro⟩ := HS.out
        obtain ⟨ad, x, rfl, -, hcell0⟩ := (HI.out.ext IntC.ext (hk0.1.out.drew)).at1 (j := j) (by rw [HN.out]; exact hlt)
        have hcell := hcell0
        obtain ⟨y, hy⟩ : ∃ y, IntKind.i64.wrap (x - 1) = y := ⟨_, rfl⟩
        have HRO := Aside.mk hro
        have HSM := Aside.mk hsm
        have HES := Aside.mk hes
        have HLB : Aside (es.length + [x].length ≤ 1073741824) := ⟨by have := HM8.out; simp; omega⟩
        have HLB2 : Aside (∀ d : Int, (es ++ [d]).length = j + 1) := ⟨fun d => by simp [HES.out]⟩
        have HCC : Aside (∀ args w, Sem.run Tryz.prog (callFunc 31 args) w = .ok (.enter 31 args) w) := ⟨by intro args w; simp [go_sem]⟩
        have hp0 : (0 : Int) ≤ (j : Int) := Int.natCast_nonneg _
        have hp1 : (j : Int) < (n : Int) := by omega
        have hb1 := hb0.ext ((Ext.refl wr).drew)
        have hk1 := Keep2.ext ((Ext.refl wr).drew) hk0
        clear HS hes hsm hro hcell0
        go_wp2_with fail
        go_region_law (first | (refine step_call (F := 31) (args := #[.tmp 32, .const (.int .i64 8)]) (types := #[3, 3]) HCC.out rfl rfl #[.int .i64 y, .int .i64 8] (by simp [Act.eval, Act.put]) (mod_calls (by decide) (by decide)) ?_; rintro e w3 ⟨r, rfl, hr0, hr1, rfl⟩; have HD8 : Aside (1 ≤ 1 + r ∧ 1 + r ≤ 8) := ⟨⟨by omega, by omega⟩⟩; have hwd : IntKind.i64.wrap (1 + r) = 1 + r := wrap_i64 _ (Int.le_trans (by decide) HD8.out.1) (Int.le_trans HD8.out.2 (by decide)); have hb3 := hb0.ext (((Ext.refl wr).alloc (.cells #[.int .i64 (1 + r)] 3)).drew); have hk3 := Keep2.ext (((Ext.refl wr).alloc (.cells #[.int .i64 (1 + r)] 3)).drew) hk0; have HRO3 := Aside.mk (HRO.out.ext IntC.ext (((Ext.refl wr).alloc (.cells #[.int .i64 (1 + r)] 3)).drew)); have HSB := Aside.mk ((SO.lit (e := 3) (R := IntC) wr [.int .i64 (1 + r)] [1 + r] (by simp) (rows_ints [1 + r] _)).sv.ext IntC.ext ((Ext.refl _).drew)); have HLT3 := Aside.mk (B2.lt hb3); clear hr0 hr1; refine ⟨_, rfl, ?_⟩) | (refine step_append_so (R := IntC) (W := (wr.alloc (.cells #[.int .i64 (1 + r)] 3)).drew) (w.heap.size + 2 + 1) elemInt rfl (.tmp 26) (.tmp 35) rfl (.slice NA j cN) (.slice (some ⟨wr.heap.size, 0, none⟩) 1 1) es [1 + r] HRO3.out HSB.out IntC.one (fun _ _ _ _ h => h) (by simp [Act.eval]) (by simp [Act.eval]) HLT3.out HLB.out ?_; rintro v1 w5 ho hg; obtain ⟨A5, c5, rfl, _⟩ := ho.sv.form; rw [HLB2.out] at ho ⊢; have hbel := Below.grown (Below.refl (w.heap.size + 2 + 1) _) hg HLT3.out HRO3.out.low; have hb5 := hb3.below (Nat.lt_succ_self _) hbel; have hk5 := hk3.below (Below.mono hbel (Nat.le_succ _)); have HRO5 := Aside.mk ho; clear ho hg hbel))
        all_goals
          have HB5 := Aside.mk hb5
          have HK5 := Aside.mk hk5
          clear hb0 hb1 hb3 hk0 hk1 hk3
          go_wp2_with fail
          go_roundw
          case rel => exact ⟨j + 1, A5, c5, by omega, by omega, by go_num, HK5.out.far (Nat.le_refl _) _ _, HB5.out.put 1 _, ⟨es ++ [1 + r], HLB2.out (1 + r), fun z hz => (List.mem_append.1 hz).elim (HSM.out z) (fun hz => by rw [List.mem_singleton.1 hz]; exact HD8.out), HRO5.out.set (Nat.lt_succ_self _) _ (fun _ _ h => h)⟩⟩
          case measure => simp [intOf]; omega
      · obtain ⟨es, hes, hsm, hro⟩ := HS.out
        subst hes
        have HSM := Aside.mk hsm
        have HRO := Aside.mk hro
        have HK := Aside.mk hk0
        have HJM := Aside.mk hjm
        have hor : n ≤ es.length ∨ m ≤ (es.length : Int) := by omega
        clear HS hsm hro hlt
        rcases hor with ho | ho
        · have hp1 : ¬ ((es.length : Int) < (n : Int)) := by omega
          go_wp2_with fail
          refine bodyPost_ret (v := .agg #[.int .i64 1, .slice NA es.length cN]) (by simp [results, Tryz.results24, go_sem, hk0]) rfl ⟨⟨1, es, NA, cN, rfl, by decide, HJM.out, HSM.out, ?_⟩, (HK.out.1.out.set (Nat.le_succ _) _).set (Nat.le_succ _) _⟩
          exact ((HRO.out.set (Nat.lt_succ_of_lt (Nat.lt_succ_self _)) _ (fun _ _ h => h)).set (Nat.lt_succ_of_lt (Nat.lt_succ_self _)) _ (fun _ _ h => h)).mono (by omega)
        · by_cases ho2 : (es.length : Int) < (n : Int)
          · have hp1 : ¬ ((es.length : Int) < m) := by omega
            go_wp2_with fail
            refine bodyPost_ret (v := .agg #[.int .i64 1, .slice NA es.length cN]) (by simp [results, Tryz.results24, go_sem, hk0]) rfl ⟨⟨1, es, NA, cN, rfl, by decide, HJM.out, HSM.out, ?_⟩, (HK.out.1.out.set (Nat.le_succ _) _).set (Nat.le_succ _) _⟩
            exact ((HRO.out.set (Nat.lt_succ_of_lt (Nat.lt_succ_self _)) _ (fun _ _ h => h)).set (Nat.lt_succ_of_lt (Nat.lt_succ_self _)) _ (fun _ _ h => h)).mono (by omega)
          · go_wp2_with fail
            refine bodyPost_ret (v := .agg #[.int .i64 1, .slice NA es.length cN]) (by simp [results, Tryz.results24, go_sem, hk0]) rfl ⟨⟨1, es, NA, cN, rfl, by decide, HJM.out, HSM.out, ?_⟩, (HK.out.1.out.set (Nat.le_succ _) _).set (Nat.le_succ _) _⟩
            exact ((HRO.out.set (Nat.lt_succ_of_lt (Nat.lt_succ_self _)) _ (fun _ _ h => h)).set (Nat.lt_succ_of_lt (Nat.lt_succ_self _)) _ (fun _ _ h => h)).mono (by omega)
end Go.Proofs.YtcbaipnphepbeaaGreatDoor
