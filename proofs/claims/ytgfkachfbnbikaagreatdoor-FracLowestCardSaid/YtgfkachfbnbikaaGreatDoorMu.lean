/- The plain law of valid results: each result is valid; a number's parts, both times a number, make the number. FracLowest: the call returns true. -/
import Derived.Test.YtgfkachfbnbikaaGreatDoorMt
import Derived.Test.YtgfkachfbnbikaaGreatDoorMq
import Derived.Test.YtgfkachfbnbikaaGreatDoorMn
namespace Go.Proofs.YtgfkachfbnbikaaGreatDoor
open Go.RowKit

theorem okq_fault {l : Int} (h : l = 4 ∨ l = 11) : okq (fq l) = true := by rcases h with rfl | rfl <;> rfl
theorem okq_f {q : Rq} (h : okq q = true) : q.f = 0 ∨ q.f = 4 ∨ q.f = 11 := by
  unfold okq at h
  split at h
  · rename_i h0; exact .inl h0
  · simp only [Bool.and_eq_true, Bool.or_eq_true, beq_iff_eq] at h
    exact .inr h.1.1
theorem okq_fq {q : Rq} (h : okq q = true) (hf : q.f ≠ 0) : q = fq q.f := by
  unfold okq at h
  rw [if_neg hf] at h
  simp only [Bool.and_eq_true, Bool.not_eq_true', decide_eq_true_eq] at h
  obtain ⟨f, n, x, y⟩ := q
  dsimp only at h
  have hx : x = [] := List.eq_nil_of_length_eq_zero (by omega)
  have hy : y = [] := List.eq_nil_of_length_eq_zero (by omega)
  obtain rfl : n = false := h.1.2
  subst hx hy
  rfl
theorem ratio_okq (n : Bool) (x y : Nat) : okq (ratio n x y) = true := by
  rcases Nat.eq_zero_or_pos y with h | h
  · subst h; unfold ratio; rw [if_pos rfl]; rfl
  · cases h1 : (isLong (x / Nat.gcd x y) || isLong (y / Nat.gcd x y))
    · rw [Bool.or_eq_false_iff] at h1
      have hg : 0 < Nat.gcd x y := Nat.gcd_pos_of_pos_right _ h
      have k : IsNum (ratio n x y) (x / Nat.gcd x y) (y / Nat.gcd x y) := by
        have e : ratio n x y = ⟨0, n && decide (0 < x), dig (x / Nat.gcd x y), dig (y / Nat.gcd x y)⟩ := by
          unfold ratio
          rw [if_neg (by omega), h1.1, h1.2]; rfl
        rw [e]
        refine ⟨rfl, rfl, rfl, isLong_false.1 h1.1, isLong_false.1 h1.2, Nat.div_pos (Nat.le_of_dvd h (Nat.gcd_dvd_right _ _)) hg, ?_, ?_⟩
        · rw [Nat.gcd_div (Nat.gcd_dvd_left _ _) (Nat.gcd_dvd_right _ _), Nat.div_self hg]
        · intro hh
          simp only [Bool.and_eq_true, decide_eq_true_eq] at hh
          exact Nat.div_pos (Nat.le_of_dvd hh.2 (Nat.gcd_dvd_left _ _)) hg
      exact k.ok
    · unfold ratio; rw [if_neg (by omega), if_pos h1]; rfl
theorem madeq_okq {a b res : Rq} (ka : okq a = true) (kb : okq b = true) (hr : okq res = true) : okq (madeq a b res).1 = true := by
  unfold madeq
  rw [ka, kb]
  show okq (if leastq a.f b.f = 0 then res else fq (leastq a.f b.f)) = true
  split
  · exact hr
  · rename_i h
    apply okq_fault
    have h1 := okq_f ka
    have h2 := okq_f kb
    unfold leastq at h ⊢
    split at h <;> rename_i h3
    · rw [if_pos h3]; omega
    · rw [if_neg h3]; omega
theorem tameq_okq (f : Int) (n : Bool) (xs ys : List Nat) (most : Nat) : okq (tameq f n xs ys most) = true := by
  unfold tameq
  split
  · rename_i h; exact okq_fault h
  · exact ratio_okq _ _ _
theorem ratio_times {q : Rq} {p d z : Nat} (k : IsNum q p d) (hz : 0 < z) : ratio q.neg (p * z) (d * z) = q := by
  have hg : Nat.gcd (p * z) (d * z) = z := by rw [Nat.gcd_mul_right, k.gcd, Nat.one_mul]
  have hd : 0 < d * z := Nat.mul_pos k.pos hz
  unfold ratio
  rw [if_neg (by omega), hg, Nat.mul_div_cancel _ hz, Nat.mul_div_cancel _ hz, isLong_false.2 k.la, isLong_false.2 k.lb]
  have hn : (q.neg && decide (0 < p * z)) = q.neg := by
    cases h : q.neg
    · rfl
    · rw [decide_eq_true (Nat.mul_pos (k.neg h) hz)]; rfl
  rw [hn]
  cases q with
  | mk f n x y =>
    have h1 := k.f
    have h2 := k.num
    have h3 := k.den
    dsimp only at h1 h2 h3
    rw [h1, h2, h3]
    rfl
end Go.Proofs.YtgfkachfbnbikaaGreatDoor

namespace Go.Proofs.YtgfkachfbnbikaaGreatDoor
open Go.RowKit

theorem four_new (w : World) (x0 x1 x2 x3 : Value) (t : TypeId) : Four (w.alloc (.cells #[x0, x1, x2, x3] t)) w.heap.size x0 x1 x2 x3 := ⟨cell_new rfl rfl, cell_new rfl rfl, cell_new rfl rfl, cell_new rfl rfl⟩
theorem tame128 {w : World} {f : Int} {neg : Bool} {sx sy : Value} {xs ys : List Nat} {q : Rq} (hx : RL w sx xs) (hy : RL w sy ys) (hq : tameq f neg xs ys 128 = q) :
    Calls Tryz.prog 34 #[.agg #[.int .i64 f, .bool neg, sx, sy], .int .i64 128] w fun e w' => ∃ r, e = .returned r ∧ RO w.heap.size w' r q ∧ Ext w w' := tame_calls (most := 128) hx hy (by decide) hq
theorem natural100 {w : World} {u : Value} {xs : List Nat} {n : Nat} (hu : RL w u xs) (hn : val (xs.take 100) = n) :
    Calls Tryz.prog 46 #[u, .int .i64 100] w fun e w' => ∃ r, e = .returned r ∧ OV w.heap.size w' r (dig n) ∧ Ext w w' := natural_law (most := 100) hu rfl (by decide) hn
abbrev KP (w : World) (P : Nat) (a0 a1 a2 a3 : Value) (w' : World) : Prop := Aside (Ext w w') ∧ Four w' P a0 a1 a2 a3
theorem KP.ext {w w1 w2 : World} {P : Nat} {a0 a1 a2 a3 : Value} (e : Ext w1 w2) (h : KP w P a0 a1 a2 a3 w1) : KP w P a0 a1 a2 a3 w2 := ⟨⟨h.1.out.trans e⟩, h.2.ext e⟩
theorem KP.set {w w1 : World} {P : Nat} {a0 a1 a2 a3 : Value} (h : KP w P a0 a1 a2 a3 w1) {g : Nat} (hg : w.heap.size ≤ g) (hP : P < g) (j : Nat) (v : Value) : KP w P a0 a1 a2 a3 (w1.setCell ⟨g, j, none⟩ v) :=
  ⟨⟨h.1.out.set hg v⟩, h.2.other (by omega) j v⟩
/-- A box of four cells that may be stored into. -/
abbrev Box4 (w : World) (g : Nat) : Prop := Fits w ⟨g, 0, none⟩ ∧ Fits w ⟨g, 1, none⟩ ∧ Fits w ⟨g, 2, none⟩ ∧ Fits w ⟨g, 3, none⟩
theorem Box4.ext {a b : World} (e : Ext a b) {g : Nat} (h : Box4 a g) : Box4 b g := ⟨h.1.ext e, h.2.1.ext e, h.2.2.1.ext e, h.2.2.2.ext e⟩
theorem Box4.fresh {w1 w2 : World} (e : Ext (w1.alloc (.cells #[.int .i64 0, .bool false, .slice none 0 0, .slice none 0 0] 26)) w2) : Box4 w2 w1.heap.size :=
  ⟨(fits_new (v := .int .i64 0) rfl rfl).ext e, (fits_new (v := .bool false) rfl rfl).ext e, (fits_new (v := .slice none 0 0) rfl rfl).ext e, (fits_new (v := .slice none 0 0) rfl rfl).ext e⟩
theorem Box4.first {w1 w2 : World} (e : Ext ((w1.alloc (.cells #[.int .i64 0, .bool false, .slice none 0 0, .slice none 0 0] 26)).drew) w2) : Box4 w2 w1.heap.size := Box4.fresh (((Ext.refl _).drew).trans e)
theorem Box4.lt {w : World} {g : Nat} (h : Box4 w g) : g < w.heap.size := World.block_lt_of_cell? _ _ h.1.1

theorem RR.agg {w : World} {f : Int} {n : Bool} {x y : Value} {q : Rq} (h : RR w (.agg #[.int .i64 f, .bool n, x, y]) q) : RV w x q.num ∧ RV w y q.den := by
  obtain ⟨x', y', e, h1, h2⟩ := h
  injection e with e
  simp only [Array.mk.injEq, List.cons.injEq, and_true] at e
  obtain ⟨_, _, rfl, rfl⟩ := e
  exact ⟨h1, h2⟩

set_option maxRecDepth 10000 in
set_option maxHeartbeats 8000000 in
theorem lowest_calls {w : World} {f1 f2 : Int} {n1 n2 : Bool} {sx1 sy1 sx2 sy2 st : Value} {xs1 ys1 xs2 ys2 ts : List Nat} (hg : Glob w) (hx1 : RL w sx1 xs1) (hy1 : RL w sy1 ys1) (hx2 : RL w sx2 xs2) (hy2 : RL w sy2 ys2) (ht : RL w st ts) :
    Calls Tryz.prog 9 #[.agg #[.int .i64 f1, .bool n1, sx1, sy1], .agg #[.int .i64 f2, .bool n2, sx2, sy2], st] w fun e w' => e = .returned (.bool true) ∧ Ext w w' := by
  have HG := Aside.mk hg
  have HX1 := Aside.mk hx1
  have HY1 := Aside.mk hy1
  have HX2 := Aside.mk hx2
  have HY2 := Aside.mk hy2
  have HT := Aside.mk ht
  obtain ⟨a, ha⟩ : ∃ a : Rq, tameq f1 n1 xs1 ys1 128 = a := ⟨_, rfl⟩
  obtain ⟨b, hb⟩ : ∃ b : Rq, tameq f2 n2 xs2 ys2 128 = b := ⟨_, rfl⟩
  have HQ1 := Aside.mk ha
  have HQ2 := Aside.mk hb
  have hka : okq a = true := ha ▸ tameq_okq _ _ _ _ _
  have hkb : okq b = true := hb ▸ tameq_okq _ _ _ _ _
  obtain ⟨z, hz⟩ : ∃ z, val (ts.take 100) = z := ⟨_, rfl⟩
  have HZ := Aside.mk hz
  have hlz : (dig z).length ≤ 100 := hz ▸ dig_take ht.ds
  obtain ⟨AX1, cx1, rfl, _⟩ := hx1
  obtain ⟨AY1, cy1, rfl, _⟩ := hy1
  obtain ⟨AX2, cx2, rfl, _⟩ := hx2
  obtain ⟨AY2, cy2, rfl, _⟩ := hy2
  obtain ⟨AT, ct, rfl, _⟩ := ht
  generalize xs1.length = nx1 at *
  generalize ys1.length = ny1 at *
  generalize xs2.length = nx2 at *
  generalize ys2.length = ny2 at *
  generalize ts.length = nt at *
  clear ha hb hg hz
  have hk0 := KeepE.ext (Ext.refl _).drew (KeepE.init w (.int .i64 f1) (.bool n1) (.slice AX1 nx1 cx1) (.slice AY1 ny1 cy1) (.int .i64 f2) (.bool n2) (.slice AX2 nx2 cx2) (.slice AY2 ny2 cy2) 26 26)
  have HL : Lasts (KeepE w (.int .i64 f1) (.bool n1) (.slice AX1 nx1 cx1) (.slice AY1 ny1 cy1) (.int .i64 f2) (.bool n2) (.slice AX2 nx2 cx2) (.slice AY2 ny2 cy2)) (w.heap.size + 2) := ⟨fun _ _ e h => KeepE.ext e h, fun _ _ _ _ _ _ h k => KeepE.four k h _ _ _ _⟩
  have HK0 := Aside.mk hk0
  clear hk0
  go_enter Tryz.func9, Tryz.ntmps9
  go_upto_region 1 with fail
  refine wp_region_each (fun a0 l a' w' => ∃ (vl vc vb : Nat → Value) (P : Nat → Nat), a' = (((((a0.put (some 22) (vl 0)).put (some 23) (vc 0)).put (some 24) (vl 1)).put (some 25) (vc 1)).put (some 7) (vb 0)).put (some 8) (vb 1) ∧
    InvN 2 l (KeepE w (.int .i64 f1) (.bool n1) (.slice AX1 nx1 cx1) (.slice AY1 ny1 cy1) (.int .i64 f2) (.bool n2) (.slice AX2 nx2 cx2) (.slice AY2 ny2 cy2)) (w.heap.size + 2)
      (two (.agg #[.int .i64 f1, .bool n1, .slice AX1 nx1 cx1, .slice AY1 ny1 cy1]) (.agg #[.int .i64 f2, .bool n2, .slice AX2 nx2 cx2, .slice AY2 ny2 cy2])) (two a b) vl vc vb P w') (by kernel_rfl) (by kernel_rfl) ?start ?fin ?each
  case start => exact ⟨fun _ => undef, fun _ => undef, fun _ => undef, fun _ => 0, rfl, InvN.start HK0.out (KeepE.big HK0.out)⟩
  case each =>
    refine Each.cons (j := 1) rfl ?s0 (Each.cons (j := 2) rfl ?s1 (Each.cons (j := 3) rfl ?s2 (Each.cons (j := 4) rfl ?s3 (Each.cons (j := 5) rfl ?s4 (Each.cons (j := 6) rfl ?s5 (Each.cons (j := 7) rfl ?s6 (Each.cons (j := 8) rfl ?s7 Each.nil)))))))
    case s0 =>
      rintro l a' w' - - ⟨vl, vc, vb, P, rfl, I⟩
      have hk := I.keep
      intro K' hK
      simp only [Act.put, List.setIfInBounds_toArray, List.set_cons_zero, List.set_cons_succ]
      go_simp
      exact hK.out _ _ ⟨upd vl 0 _, vc, vb, P, rfl, I.loads 0 (by decide)⟩
    case s1 =>
      rintro l a' w' h0 hd ⟨vl, vc, vb, P, rfl, I⟩
      obtain ⟨vl, rfl⟩ := upd_eta (I.load 0 (by decide) (hd (2 * 0) (by decide)))
      have HK := Aside.mk I.keep.1.out
      clear hd
      intro K' hK
      simp only [Act.put, List.setIfInBounds_toArray, List.set_cons_zero, List.set_cons_succ, upd_same, two0]
      go_simp
      go_wp2_with (go_at_call 34; with_reducible refine (tame128 (HX1.out.ext HK.out) (HY1.out.ext HK.out) HQ1.out).mono ?_; rintro e w4 ⟨r, rfl, hr, he⟩)
      exact hK.out _ _ ⟨upd vl 0 _, upd vc 0 r, vb, P, rfl, I.calls HL 0 (by decide) h0 he hr⟩
    case s2 =>
      rintro l a' w' - - ⟨vl, vc, vb, P, rfl, I⟩
      have hk := I.keep
      intro K' hK
      simp only [Act.put, List.setIfInBounds_toArray, List.set_cons_zero, List.set_cons_succ]
      go_simp
      exact hK.out _ _ ⟨upd vl 1 _, vc, vb, P, rfl, I.loads 1 (by decide)⟩
    case s3 =>
      rintro l a' w' h0 hd ⟨vl, vc, vb, P, rfl, I⟩
      obtain ⟨vl, rfl⟩ := upd_eta (I.load 1 (by decide) (hd (2 * 1) (by decide)))
      have HK := Aside.mk I.keep.1.out
      clear hd
      intro K' hK
      simp only [Act.put, List.setIfInBounds_toArray, List.set_cons_zero, List.set_cons_succ, upd_same, two1]
      go_simp
      go_wp2_with (go_at_call 34; with_reducible refine (tame128 (HX2.out.ext HK.out) (HY2.out.ext HK.out) HQ2.out).mono ?_; rintro e w4 ⟨r, rfl, hr, he⟩)
      exact hK.out _ _ ⟨upd vl 1 _, upd vc 1 r, vb, P, rfl, I.calls HL 1 (by decide) h0 he hr⟩
    case s4 =>
      rintro l a' w' h0 - ⟨vl, vc, vb, P, rfl, I⟩
      intro K' hK
      simp only [Act.put, List.setIfInBounds_toArray, List.set_cons_zero, List.set_cons_succ]
      go_simp
      exact hK.out _ _ ⟨vl, vc, upd vb 0 _, upd P 0 _, rfl, I.allocs HL 0 (by decide) h0⟩
    case s5 =>
      rintro l a' w' h0 - ⟨vl, vc, vb, P, rfl, I⟩
      intro K' hK
      simp only [Act.put, List.setIfInBounds_toArray, List.set_cons_zero, List.set_cons_succ]
      go_simp
      exact hK.out _ _ ⟨vl, vc, upd vb 1 _, upd P 1 _, rfl, I.allocs HL 1 (by decide) h0⟩
    case s6 =>
      rintro l a' w' - hd ⟨vl, vc, vb, P, rfl, I⟩
      have hb := hd (2 * 2 + 0) (List.elem_iff.1 (by kernel_rfl))
      have hc := hd (2 * 0 + 1) (List.elem_iff.1 (by kernel_rfl))
      obtain ⟨hbx, -, x0, x1, x2, x3, ⟨hx0, hx1, hx2, hx3⟩, hf0, hf1, hf2, hf3⟩ := I.box 0 (by decide) hb
      obtain ⟨_, _, hro, -⟩ := I.call 0 (by decide) hc
      obtain ⟨A3, c3, B3, d3, hv⟩ := hro.form
      have hv' := hv
      obtain ⟨vb, rfl⟩ := upd_eta hbx
      obtain ⟨vc, rfl⟩ := upd_eta hv
      clear hd hro hbx hv
      intro K' hK
      simp only [Act.put, List.setIfInBounds_toArray, List.set_cons_zero, List.set_cons_succ, upd_same]
      go_simp
      exact hK.out _ _ ⟨vl, upd vc 0 _, upd vb 0 _, P, rfl, I.stores HL 0 (by decide) hb hc hv'⟩
    case s7 =>
      rintro l a' w' - hd ⟨vl, vc, vb, P, rfl, I⟩
      have hb := hd (2 * 2 + 1) (List.elem_iff.1 (by kernel_rfl))
      have hc := hd (2 * 1 + 1) (List.elem_iff.1 (by kernel_rfl))
      obtain ⟨hbx, -, x0, x1, x2, x3, ⟨hx0, hx1, hx2, hx3⟩, hf0, hf1, hf2, hf3⟩ := I.box 1 (by decide) hb
      obtain ⟨_, _, hro, -⟩ := I.call 1 (by decide) hc
      obtain ⟨A3, c3, B3, d3, hv⟩ := hro.form
      have hv' := hv
      obtain ⟨vb, rfl⟩ := upd_eta hbx
      obtain ⟨vc, rfl⟩ := upd_eta hv
      clear hd hro hbx hv
      intro K' hK
      simp only [Act.put, List.setIfInBounds_toArray, List.set_cons_zero, List.set_cons_succ, upd_same]
      go_simp
      exact hK.out _ _ ⟨vl, upd vc 1 _, upd vb 1 _, P, rfl, I.stores HL 1 (by decide) hb hc hv'⟩
  case fin =>
    clear HX1 HY1 HX2 HY2 HQ1 HQ2 HL HK0
    rintro l a' w1 hl ⟨vl, vc, vb, P, rfl, I⟩
    obtain ⟨hke, hD⟩ := I.done (fun i hi => hl i hi)
    obtain ⟨hb0, -, hh0, hr0⟩ := hD 0 (by decide)
    obtain ⟨hb1, -, hh1, hr1⟩ := hD 1 (by decide)
    rw [two0] at hr0
    rw [two1] at hr1
    obtain ⟨A0, c0, B0, d0, hv0, hP⟩ := hh0.rr hr0
    obtain ⟨A1, c1, B1, d1, hv1, hQ⟩ := hh1.rr hr1
    rw [hv0] at hr0
    rw [hv1] at hr1
    rw [hb0, hb1]
    generalize P 0 = p0 at *
    generalize P 1 = p1 at *
    generalize vl 0 = z0 at *
    generalize vl 1 = z1 at *
    generalize vc 0 = z2 at *
    generalize vc 1 = z3 at *
    have HA := Aside.mk hr0
    have HB := Aside.mk hr1
    have HE1 := Aside.mk hke.1.out
    have HX := Aside.mk (Ext.refl w1)
    clear hl I hke hD hb0 hb1 hh0 hh1 hr0 hr1 hv0 hv1 vl vc vb P
    obtain ⟨q2, hq2⟩ : ∃ q, (madeq a b (sumq a.neg (val a.num) (val a.den) b.neg (val b.num) (val b.den))).1 = q := ⟨_, rfl⟩
    obtain ⟨q3, hq3⟩ : ∃ q, (madeq a b (sumq a.neg (val a.num) (val a.den) (oppq b).neg (val b.num) (val b.den))).1 = q := ⟨_, rfl⟩
    obtain ⟨q4, hq4⟩ : ∃ q, (madeq a b (ratio (a.neg != b.neg) (val a.num * val b.num) (val a.den * val b.den))).1 = q := ⟨_, rfl⟩
    obtain ⟨q5, hq5⟩ : ∃ q, (madeq a b (ratio (a.neg != b.neg) (val a.num * val b.den) (val a.den * val b.num))).1 = q := ⟨_, rfl⟩
    obtain ⟨q6, hq6⟩ : ∃ q, (madeq a a (floorq a.neg (val a.num) (val a.den))).1 = q := ⟨_, rfl⟩
    have HM2 := Aside.mk (madeq_good hka hkb hq2)
    have HM3 := Aside.mk (madeq_good hka hkb hq3)
    have HM4 := Aside.mk (madeq_good hka hkb hq4)
    have HM5 := Aside.mk (madeq_good hka hkb hq5)
    have HM6 := Aside.mk (madeq_good hka hka hq6)
    have HK2 : Aside (okq q2 = true) := ⟨hq2 ▸ madeq_okq hka hkb (ratio_okq _ _ _)⟩
    have HK3 : Aside (okq q3 = true) := ⟨hq3 ▸ madeq_okq hka hkb (ratio_okq _ _ _)⟩
    have HK4 : Aside (okq q4 = true) := ⟨hq4 ▸ madeq_okq hka hkb (ratio_okq _ _ _)⟩
    have HK5 : Aside (okq q5 = true) := ⟨hq5 ▸ madeq_okq hka hkb (ratio_okq _ _ _)⟩
    have HK6 : Aside (okq q6 = true) := ⟨hq6 ▸ madeq_okq hka hka (ratio_okq _ _ _)⟩
    clear hq2 hq3 hq4 hq5 hq6 hkb
    obtain ⟨lz, hlz'⟩ : ∃ l, (dig z).length = l := ⟨_, rfl⟩
    have HLZ := Aside.mk hlz'
    by_cases hf : a.f = 0
    · have k := okq_ds hka hf HA.out.ds
      have haf : (a.f == 0) = true := by rw [hf]; rfl
      have haf1 : (a.f != 0) = false := by rw [hf]; rfl
      rcases Nat.eq_zero_or_pos z with h0 | h0
      · have hl0 : lz = 0 := by rw [← hlz', h0, dig_zero]; rfl
        subst hl0
        clear hlz hlz' k hf h0 hka
        refine ⟨?_⟩
        simp only [Act.put, List.setIfInBounds_toArray, List.set_cons_zero, List.set_cons_succ]
        go_wp2_with (first | (go_at_call 35; with_reducible refine (good2 (Add2_calls (HA.out.ext HX.out) (HB.out.ext HX.out) rfl) HM2.out).mono ?_; rintro e w2 ⟨r, rfl, hr, he0⟩; obtain ⟨A2, c2, B2, d2, rfl⟩ := hr.form; have he := he0.alloc (.cells #[.int .i64 q2.f, .bool q2.neg, .slice A2 q2.num.length c2, .slice B2 q2.den.length d2] 26); replace HX := Aside.mk (HX.out.trans he); replace hP := Four.ext he hP; replace hQ := Four.ext he hQ; have HR2 := Aside.mk (hr.rr.ext ((Ext.refl w2).alloc (.cells #[.int .i64 q2.f, .bool q2.neg, .slice A2 q2.num.length c2, .slice B2 q2.den.length d2] 26))); have hB2 := four_new w2 (.int .i64 q2.f) (.bool q2.neg) (.slice A2 q2.num.length c2) (.slice B2 q2.den.length d2) 26; clear hr he0 he) | (go_at_call 36; with_reducible refine (good2 (Sub2_calls (HA.out.ext HX.out) (HB.out.ext HX.out) rfl) HM3.out).mono ?_; rintro e w3 ⟨r, rfl, hr, he0⟩; obtain ⟨A3, c3, B3, d3, rfl⟩ := hr.form; have he := he0.alloc (.cells #[.int .i64 q3.f, .bool q3.neg, .slice A3 q3.num.length c3, .slice B3 q3.den.length d3] 26); replace HX := Aside.mk (HX.out.trans he); replace hP := Four.ext he hP; replace hQ := Four.ext he hQ; replace hB2 := Four.ext he hB2; replace HR2 := Aside.mk (HR2.out.ext he); have HR3 := Aside.mk (hr.rr.ext ((Ext.refl w3).alloc (.cells #[.int .i64 q3.f, .bool q3.neg, .slice A3 q3.num.length c3, .slice B3 q3.den.length d3] 26))); have hB3 := four_new w3 (.int .i64 q3.f) (.bool q3.neg) (.slice A3 q3.num.length c3) (.slice B3 q3.den.length d3) 26; clear hr he0 he) | (go_at_call 39; with_reducible refine (good2 (Mul2_calls (HA.out.ext HX.out) (HB.out.ext HX.out) rfl) HM4.out).mono ?_; rintro e w4 ⟨r, rfl, hr, he0⟩; obtain ⟨A4, c4, B4, d4, rfl⟩ := hr.form; have he := he0.alloc (.cells #[.int .i64 q4.f, .bool q4.neg, .slice A4 q4.num.length c4, .slice B4 q4.den.length d4] 26); replace HX := Aside.mk (HX.out.trans he); replace hP := Four.ext he hP; replace hQ := Four.ext he hQ; replace hB2 := Four.ext he hB2; replace HR2 := Aside.mk (HR2.out.ext he); replace hB3 := Four.ext he hB3; replace HR3 := Aside.mk (HR3.out.ext he); have HR4 := Aside.mk (hr.rr.ext ((Ext.refl w4).alloc (.cells #[.int .i64 q4.f, .bool q4.neg, .slice A4 q4.num.length c4, .slice B4 q4.den.length d4] 26))); have hB4 := four_new w4 (.int .i64 q4.f) (.bool q4.neg) (.slice A4 q4.num.length c4) (.slice B4 q4.den.length d4) 26; clear hr he0 he) | (go_at_call 40; with_reducible refine (good2 (Div2_calls (HA.out.ext HX.out) (HB.out.ext HX.out) rfl) HM5.out).mono ?_; rintro e w5 ⟨r, rfl, hr, he0⟩; obtain ⟨A5, c5, B5, d5, rfl⟩ := hr.form; have he := he0.alloc (.cells #[.int .i64 q5.f, .bool q5.neg, .slice A5 q5.num.length c5, .slice B5 q5.den.length d5] 26); replace HX := Aside.mk (HX.out.trans he); replace hP := Four.ext he hP; replace hB2 := Four.ext he hB2; replace HR2 := Aside.mk (HR2.out.ext he); replace hB3 := Four.ext he hB3; replace HR3 := Aside.mk (HR3.out.ext he); replace hB4 := Four.ext he hB4; replace HR4 := Aside.mk (HR4.out.ext he); have HR5 := Aside.mk (hr.rr.ext ((Ext.refl w5).alloc (.cells #[.int .i64 q5.f, .bool q5.neg, .slice A5 q5.num.length c5, .slice B5 q5.den.length d5] 26))); have hB5 := four_new w5 (.int .i64 q5.f) (.bool q5.neg) (.slice A5 q5.num.length c5) (.slice B5 q5.den.length d5) 26; clear hr he0 he) | (go_at_call 45; with_reducible refine (good2 (Floor2_calls (HA.out.ext HX.out) rfl) HM6.out).mono ?_; rintro e w6 ⟨r, rfl, hr, he0⟩; obtain ⟨A6, c6, B6, d6, rfl⟩ := hr.form; have he := he0.alloc (.cells #[.int .i64 q6.f, .bool q6.neg, .slice A6 q6.num.length c6, .slice B6 q6.den.length d6] 26); replace HX := Aside.mk (HX.out.trans he); replace hP := Four.ext he hP; replace hB2 := Four.ext he hB2; replace HR2 := Aside.mk (HR2.out.ext he); replace hB3 := Four.ext he hB3; replace HR3 := Aside.mk (HR3.out.ext he); replace hB4 := Four.ext he hB4; replace HR4 := Aside.mk (HR4.out.ext he); replace hB5 := Four.ext he hB5; replace HR5 := Aside.mk (HR5.out.ext he); have HR6 := Aside.mk (hr.rr.ext ((Ext.refl w6).alloc (.cells #[.int .i64 q6.f, .bool q6.neg, .slice A6 q6.num.length c6, .slice B6 q6.den.length d6] 26))); have hB6 := four_new w6 (.int .i64 q6.f) (.bool q6.neg) (.slice A6 q6.num.length c6) (.slice B6 q6.den.length d6) 26; clear hr he0 he) | (go_at_call 44; with_reducible refine (good_true HR2.out HK2.out).mono ?_; rintro e w7 ⟨rfl, he⟩; replace HX := Aside.mk (HX.out.trans he); replace hP := Four.ext he hP; replace hB3 := Four.ext he hB3; replace HR3 := Aside.mk (HR3.out.ext he); replace hB4 := Four.ext he hB4; replace HR4 := Aside.mk (HR4.out.ext he); replace hB5 := Four.ext he hB5; replace HR5 := Aside.mk (HR5.out.ext he); replace hB6 := Four.ext he hB6; replace HR6 := Aside.mk (HR6.out.ext he);  clear he) | (go_at_call 44; with_reducible refine (good_true HR3.out HK3.out).mono ?_; rintro e w7 ⟨rfl, he⟩; replace HX := Aside.mk (HX.out.trans he); replace hP := Four.ext he hP; replace hB4 := Four.ext he hB4; replace HR4 := Aside.mk (HR4.out.ext he); replace hB5 := Four.ext he hB5; replace HR5 := Aside.mk (HR5.out.ext he); replace hB6 := Four.ext he hB6; replace HR6 := Aside.mk (HR6.out.ext he);  clear he) | (go_at_call 44; with_reducible refine (good_true HR4.out HK4.out).mono ?_; rintro e w7 ⟨rfl, he⟩; replace HX := Aside.mk (HX.out.trans he); replace hP := Four.ext he hP; replace hB5 := Four.ext he hB5; replace HR5 := Aside.mk (HR5.out.ext he); replace hB6 := Four.ext he hB6; replace HR6 := Aside.mk (HR6.out.ext he);  clear he) | (go_at_call 44; with_reducible refine (good_true HR5.out HK5.out).mono ?_; rintro e w7 ⟨rfl, he⟩; replace HX := Aside.mk (HX.out.trans he); replace hP := Four.ext he hP; replace hB6 := Four.ext he hB6; replace HR6 := Aside.mk (HR6.out.ext he);  clear he) | (go_at_call 44; with_reducible refine (good_true HR6.out HK6.out).mono ?_; rintro e w7 ⟨rfl, he⟩; replace HX := Aside.mk (HX.out.trans he); replace hP := Four.ext he hP;  clear he) | (go_at_call 46; with_reducible refine (natural100 (HT.out.ext (HE1.out.trans HX.out)) HZ.out).mono ?_; rintro e w12 ⟨r, rfl, hr, he⟩; replace HX := Aside.mk (HX.out.trans he); replace hP := Four.ext he hP; have HZV := Aside.mk hr.rv; obtain ⟨AZ, cz, rfl, _⟩ := hr.form; (rw [HLZ.out] at HZV ⊢); clear hr he) | (go_at_call 23; with_reducible refine (alive_calls (HG.out.ext (HE1.out.trans HX.out))).mono ?_; rintro e w13 ⟨rfl, he⟩; have HEND := Aside.mk ((HE1.out.trans HX.out).trans he); clear he))
        go_ret
        exact ⟨rfl, HEND.out⟩
      · obtain ⟨m1, hm1⟩ : ∃ m, val a.num * z = m := ⟨_, rfl⟩
        obtain ⟨m2, hm2⟩ : ∃ m, val a.den * z = m := ⟨_, rfl⟩
        have HP1 := Aside.mk hm1
        have HP2 := Aside.mk hm2
        have hag := HA.out.agg
        have HNA : Aside (RV w1 (.slice A0 a.num.length c0) (dig (val a.num))) := ⟨hag.1.eq' k.num⟩
        have HDA : Aside (RV w1 (.slice B0 a.den.length d0) (dig (val a.den))) := ⟨hag.2.eq' k.den⟩
        have LP := Aside.mk k.la
        have LD := Aside.mk k.lb
        have LZ : Aside ((dig z).length ≤ 128) := ⟨by omega⟩
        have NE1 : Aside (natErr (dig m1) = 0) := ⟨natErr_dig0 (by rw [← hm1]; exact Nat.le_trans (len_mul k.la LZ.out) (by decide))⟩
        have NE2 : Aside (natErr (dig m2) = 0) := ⟨natErr_dig0 (by rw [← hm2]; exact Nat.le_trans (len_mul k.lb LZ.out) (by decide))⟩
        have HQM : Aside (ratio a.neg (val (dig m1)) (val (dig m2)) = a) := ⟨by rw [val_dig, val_dig, ← hm1, ← hm2]; exact ratio_times k h0⟩
        have hlz0 : ((lz : Int) == 0) = false := by
          have := dig_length_pos h0
          exact beq_eq_false_iff_ne.2 (by omega)
        clear hlz hlz' k hf h0 hka hm1 hm2 hag
        refine ⟨?_⟩
        simp only [Act.put, List.setIfInBounds_toArray, List.set_cons_zero, List.set_cons_succ]
        go_wp2_with (first | (go_at_call 35; with_reducible refine (good2 (Add2_calls (HA.out.ext HX.out) (HB.out.ext HX.out) rfl) HM2.out).mono ?_; rintro e w2 ⟨r, rfl, hr, he0⟩; obtain ⟨A2, c2, B2, d2, rfl⟩ := hr.form; have he := he0.alloc (.cells #[.int .i64 q2.f, .bool q2.neg, .slice A2 q2.num.length c2, .slice B2 q2.den.length d2] 26); replace HX := Aside.mk (HX.out.trans he); replace hP := Four.ext he hP; replace hQ := Four.ext he hQ; have HR2 := Aside.mk (hr.rr.ext ((Ext.refl w2).alloc (.cells #[.int .i64 q2.f, .bool q2.neg, .slice A2 q2.num.length c2, .slice B2 q2.den.length d2] 26))); have hB2 := four_new w2 (.int .i64 q2.f) (.bool q2.neg) (.slice A2 q2.num.length c2) (.slice B2 q2.den.length d2) 26; clear hr he0 he) | (go_at_call 36; with_reducible refine (good2 (Sub2_calls (HA.out.ext HX.out) (HB.out.ext HX.out) rfl) HM3.out).mono ?_; rintro e w3 ⟨r, rfl, hr, he0⟩; obtain ⟨A3, c3, B3, d3, rfl⟩ := hr.form; have he := he0.alloc (.cells #[.int .i64 q3.f, .bool q3.neg, .slice A3 q3.num.length c3, .slice B3 q3.den.length d3] 26); replace HX := Aside.mk (HX.out.trans he); replace hP := Four.ext he hP; replace hQ := Four.ext he hQ; replace hB2 := Four.ext he hB2; replace HR2 := Aside.mk (HR2.out.ext he); have HR3 := Aside.mk (hr.rr.ext ((Ext.refl w3).alloc (.cells #[.int .i64 q3.f, .bool q3.neg, .slice A3 q3.num.length c3, .slice B3 q3.den.length d3] 26))); have hB3 := four_new w3 (.int .i64 q3.f) (.bool q3.neg) (.slice A3 q3.num.length c3) (.slice B3 q3.den.length d3) 26; clear hr he0 he) | (go_at_call 39; with_reducible refine (good2 (Mul2_calls (HA.out.ext HX.out) (HB.out.ext HX.out) rfl) HM4.out).mono ?_; rintro e w4 ⟨r, rfl, hr, he0⟩; obtain ⟨A4, c4, B4, d4, rfl⟩ := hr.form; have he := he0.alloc (.cells #[.int .i64 q4.f, .bool q4.neg, .slice A4 q4.num.length c4, .slice B4 q4.den.length d4] 26); replace HX := Aside.mk (HX.out.trans he); replace hP := Four.ext he hP; replace hQ := Four.ext he hQ; replace hB2 := Four.ext he hB2; replace HR2 := Aside.mk (HR2.out.ext he); replace hB3 := Four.ext he hB3; replace HR3 := Aside.mk (HR3.out.ext he); have HR4 := Aside.mk (hr.rr.ext ((Ext.refl w4).alloc (.cells #[.int .i64 q4.f, .bool q4.neg, .slice A4 q4.num.length c4, .slice B4 q4.den.length d4] 26))); have hB4 := four_new w4 (.int .i64 q4.f) (.bool q4.neg) (.slice A4 q4.num.length c4) (.slice B4 q4.den.length d4) 26; clear hr he0 he) | (go_at_call 40; with_reducible refine (good2 (Div2_calls (HA.out.ext HX.out) (HB.out.ext HX.out) rfl) HM5.out).mono ?_; rintro e w5 ⟨r, rfl, hr, he0⟩; obtain ⟨A5, c5, B5, d5, rfl⟩ := hr.form; have he := he0.alloc (.cells #[.int .i64 q5.f, .bool q5.neg, .slice A5 q5.num.length c5, .slice B5 q5.den.length d5] 26); replace HX := Aside.mk (HX.out.trans he); replace hP := Four.ext he hP; replace hB2 := Four.ext he hB2; replace HR2 := Aside.mk (HR2.out.ext he); replace hB3 := Four.ext he hB3; replace HR3 := Aside.mk (HR3.out.ext he); replace hB4 := Four.ext he hB4; replace HR4 := Aside.mk (HR4.out.ext he); have HR5 := Aside.mk (hr.rr.ext ((Ext.refl w5).alloc (.cells #[.int .i64 q5.f, .bool q5.neg, .slice A5 q5.num.length c5, .slice B5 q5.den.length d5] 26))); have hB5 := four_new w5 (.int .i64 q5.f) (.bool q5.neg) (.slice A5 q5.num.length c5) (.slice B5 q5.den.length d5) 26; clear hr he0 he) | (go_at_call 45; with_reducible refine (good2 (Floor2_calls (HA.out.ext HX.out) rfl) HM6.out).mono ?_; rintro e w6 ⟨r, rfl, hr, he0⟩; obtain ⟨A6, c6, B6, d6, rfl⟩ := hr.form; have he := he0.alloc (.cells #[.int .i64 q6.f, .bool q6.neg, .slice A6 q6.num.length c6, .slice B6 q6.den.length d6] 26); replace HX := Aside.mk (HX.out.trans he); replace hP := Four.ext he hP; replace hB2 := Four.ext he hB2; replace HR2 := Aside.mk (HR2.out.ext he); replace hB3 := Four.ext he hB3; replace HR3 := Aside.mk (HR3.out.ext he); replace hB4 := Four.ext he hB4; replace HR4 := Aside.mk (HR4.out.ext he); replace hB5 := Four.ext he hB5; replace HR5 := Aside.mk (HR5.out.ext he); have HR6 := Aside.mk (hr.rr.ext ((Ext.refl w6).alloc (.cells #[.int .i64 q6.f, .bool q6.neg, .slice A6 q6.num.length c6, .slice B6 q6.den.length d6] 26))); have hB6 := four_new w6 (.int .i64 q6.f) (.bool q6.neg) (.slice A6 q6.num.length c6) (.slice B6 q6.den.length d6) 26; clear hr he0 he) | (go_at_call 44; with_reducible refine (good_true HR2.out HK2.out).mono ?_; rintro e w7 ⟨rfl, he⟩; replace HX := Aside.mk (HX.out.trans he); replace hP := Four.ext he hP; replace hB3 := Four.ext he hB3; replace HR3 := Aside.mk (HR3.out.ext he); replace hB4 := Four.ext he hB4; replace HR4 := Aside.mk (HR4.out.ext he); replace hB5 := Four.ext he hB5; replace HR5 := Aside.mk (HR5.out.ext he); replace hB6 := Four.ext he hB6; replace HR6 := Aside.mk (HR6.out.ext he);  clear he) | (go_at_call 44; with_reducible refine (good_true HR3.out HK3.out).mono ?_; rintro e w7 ⟨rfl, he⟩; replace HX := Aside.mk (HX.out.trans he); replace hP := Four.ext he hP; replace hB4 := Four.ext he hB4; replace HR4 := Aside.mk (HR4.out.ext he); replace hB5 := Four.ext he hB5; replace HR5 := Aside.mk (HR5.out.ext he); replace hB6 := Four.ext he hB6; replace HR6 := Aside.mk (HR6.out.ext he);  clear he) | (go_at_call 44; with_reducible refine (good_true HR4.out HK4.out).mono ?_; rintro e w7 ⟨rfl, he⟩; replace HX := Aside.mk (HX.out.trans he); replace hP := Four.ext he hP; replace hB5 := Four.ext he hB5; replace HR5 := Aside.mk (HR5.out.ext he); replace hB6 := Four.ext he hB6; replace HR6 := Aside.mk (HR6.out.ext he);  clear he) | (go_at_call 44; with_reducible refine (good_true HR5.out HK5.out).mono ?_; rintro e w7 ⟨rfl, he⟩; replace HX := Aside.mk (HX.out.trans he); replace hP := Four.ext he hP; replace hB6 := Four.ext he hB6; replace HR6 := Aside.mk (HR6.out.ext he);  clear he) | (go_at_call 44; with_reducible refine (good_true HR6.out HK6.out).mono ?_; rintro e w7 ⟨rfl, he⟩; replace HX := Aside.mk (HX.out.trans he); replace hP := Four.ext he hP;  clear he) | (go_at_call 46; with_reducible refine (natural100 (HT.out.ext (HE1.out.trans HX.out)) HZ.out).mono ?_; rintro e w12 ⟨r, rfl, hr, he⟩; replace HX := Aside.mk (HX.out.trans he); replace hP := Four.ext he hP; have HZV := Aside.mk hr.rv; obtain ⟨AZ, cz, rfl, _⟩ := hr.form; (rw [HLZ.out] at HZV ⊢); clear hr he))
        have hpl : p0 < w12.heap.size := World.block_lt_of_cell? _ _ hP.1
        have HA12 := Aside.mk (HA.out.ext HX.out)
        have hk12 : KP w12 p0 (.int .i64 a.f) (.bool a.neg) (.slice A0 a.num.length c0) (.slice B0 a.den.length d0) w12 := ⟨⟨Ext.refl _⟩, hP⟩
        have hkd := KP.ext (Ext.refl _).drew hk12
        clear hB2 hB3 hB4 hB5 hB6 HR2 HR3 HR4 HR5 HR6 HM2 HM3 HM4 HM5 HM6 HK2 HK3 HK4 HK5 HK6 HB hQ hP hk12 HA HLZ HZ HT
        generalize Value.agg #[.int .i64 q2.f, .bool q2.neg, .slice A2 q2.num.length c2, .slice B2 q2.den.length d2] = g2
        generalize Value.agg #[.int .i64 q3.f, .bool q3.neg, .slice A3 q3.num.length c3, .slice B3 q3.den.length d3] = g3
        generalize Value.agg #[.int .i64 q4.f, .bool q4.neg, .slice A4 q4.num.length c4, .slice B4 q4.den.length d4] = g4
        generalize Value.agg #[.int .i64 q5.f, .bool q5.neg, .slice A5 q5.num.length c5, .slice B5 q5.den.length d5] = g5
        generalize Value.agg #[.int .i64 q6.f, .bool q6.neg, .slice A6 q6.num.length c6, .slice B6 q6.den.length d6] = g6
        generalize Value.agg #[.int .i64 b.f, .bool b.neg, .slice A1 b.num.length c1, .slice B1 b.den.length d1] = gb
        generalize Value.agg #[.int .i64 a.f, .bool a.neg, .slice A0 a.num.length c0, .slice B0 a.den.length d0] = ga
        generalize Value.tuple #[g2, .int .i64 0] = t2
        generalize Value.tuple #[g3, .int .i64 0] = t3
        generalize Value.tuple #[g4, .int .i64 0] = t4
        generalize Value.tuple #[g5, .int .i64 0] = t5
        generalize Value.tuple #[g6, .int .i64 0] = t6
        go_region_held (fun w' => KP w12 p0 (.int .i64 a.f) (.bool a.neg) (.slice A0 a.num.length c0) (.slice B0 a.den.length d0) w') (with_reducible first | assumption | exact KP.ext (by assumption) (by assumption) | exact KP.ext ((Ext.refl _).alloc _) (by assumption) | exact KP.ext (((Ext.refl _).alloc _).drew) (by assumption) | exact (KP.set (KP.set (KP.set (KP.set (by assumption) (by omega) (by omega) _ _) (by omega) (by omega) _ _) (by omega) (by omega) _ _) (by omega) (by omega) _ _)) (first | (go_at_call 47; with_reducible refine (rmul_n ((HNA.out.ext HX.out).ext (Aside.out (And.left (show KP w12 p0 (.int .i64 a.f) (.bool a.neg) (.slice A0 a.num.length c0) (.slice B0 a.den.length d0) _ from by with_reducible assumption)))) (HZV.out.ext (Aside.out (And.left (show KP w12 p0 (.int .i64 a.f) (.bool a.neg) (.slice A0 a.num.length c0) (.slice B0 a.den.length d0) _ from by with_reducible assumption)))) LP.out LZ.out HP1.out).mono ?_; rintro e w13 ⟨r, rfl, hr, he13⟩; have hk13 := KP.ext he13 (by with_reducible assumption); have hs13 := (Aside.out (And.left hk13)).size; (first | have hb13 := Box4.first he13 | have hb13 := Box4.fresh he13 | have hb13 := Box4.ext he13 (by with_reducible assumption) | skip); (try have hl13 := Box4.lt hb13); have HR13 := Aside.mk hr.rv; obtain ⟨A13, c13, rfl, _⟩ := hr.form; clear hr) | (go_at_call 47; with_reducible refine (rmul_n ((HDA.out.ext HX.out).ext (Aside.out (And.left (show KP w12 p0 (.int .i64 a.f) (.bool a.neg) (.slice A0 a.num.length c0) (.slice B0 a.den.length d0) _ from by with_reducible assumption)))) (HZV.out.ext (Aside.out (And.left (show KP w12 p0 (.int .i64 a.f) (.bool a.neg) (.slice A0 a.num.length c0) (.slice B0 a.den.length d0) _ from by with_reducible assumption)))) LD.out LZ.out HP2.out).mono ?_; rintro e w14 ⟨r, rfl, hr, he14⟩; have hk14 := KP.ext he14 (by with_reducible assumption); have hs14 := (Aside.out (And.left hk14)).size; (first | have hb14 := Box4.first he14 | have hb14 := Box4.fresh he14 | have hb14 := Box4.ext he14 (by with_reducible assumption) | skip); (try have hl14 := Box4.lt hb14); have HE14 : Ext w13 w14 := (by first | exact he14 | exact ((Ext.refl _).alloc _).trans he14); have HR14 := Aside.mk hr.rv; obtain ⟨A14, c14, rfl, _⟩ := hr.form; clear hr) | (go_at_call 20; with_reducible refine (make_good (HR13.out.ext (HE14.trans (by first | exact Ext.refl _ | exact (Ext.refl _).alloc _))) (HR14.out.ext (by first | exact Ext.refl _ | exact (Ext.refl _).alloc _)) NE1.out NE2.out HQM.out).mono ?_; rintro e w15 ⟨r, rfl, hr, he15⟩; have hk15 := KP.ext he15 (by with_reducible assumption); have hs15 := (Aside.out (And.left hk15)).size; (first | have hb15 := Box4.first he15 | have hb15 := Box4.fresh he15 | have hb15 := Box4.ext he15 (by with_reducible assumption) | skip); (try have hl15 := Box4.lt hb15); have HR15 := Aside.mk hr; obtain ⟨A15, c15, B15, d15, rfl⟩ := hr.form; clear hr))
        all_goals
          go_wp2_with (first | (go_at_call 17; with_reducible refine (gives_same (q := a) ?h1 ?h2).mono ?_; (case h1 => first | exact HR15.out.rr.ext ((Ext.refl _).alloc _) | exact (HR15.out.set4 (by first | omega | (simp; done) | (simp; omega)) _ _ _ _).rr); (case h2 => first | exact HA12.out.ext (hk15.1.out.alloc _) | exact HA12.out.ext (ext_set4 hk15.1.out (by omega) _ _ _ _)); rintro e w16 ⟨rfl, he16⟩; have HF : Aside (Ext w12 w16) := ⟨by first | exact (hk15.1.out.alloc _).trans he16 | exact (ext_set4 hk15.1.out (by omega) _ _ _ _).trans he16⟩) | (go_at_call 23; with_reducible refine (alive_calls (HG.out.ext ((HE1.out.trans HX.out).trans HF.out))).mono ?_; rintro e w17 ⟨rfl, he⟩; have HEND := Aside.mk (((HE1.out.trans HX.out).trans HF.out).trans he); clear he))
          go_ret
          exact ⟨rfl, HEND.out⟩
    · have haf : (a.f == 0) = false := beq_eq_false_iff_ne.2 hf
      have haf1 : (a.f != 0) = true := by simp [bne, haf]
      clear hlz hlz' hf hka
      refine ⟨?_⟩
      simp only [Act.put, List.setIfInBounds_toArray, List.set_cons_zero, List.set_cons_succ]
      go_wp2_with (first | (go_at_call 35; with_reducible refine (good2 (Add2_calls (HA.out.ext HX.out) (HB.out.ext HX.out) rfl) HM2.out).mono ?_; rintro e w2 ⟨r, rfl, hr, he0⟩; obtain ⟨A2, c2, B2, d2, rfl⟩ := hr.form; have he := he0.alloc (.cells #[.int .i64 q2.f, .bool q2.neg, .slice A2 q2.num.length c2, .slice B2 q2.den.length d2] 26); replace HX := Aside.mk (HX.out.trans he); replace hP := Four.ext he hP; replace hQ := Four.ext he hQ; have HR2 := Aside.mk (hr.rr.ext ((Ext.refl w2).alloc (.cells #[.int .i64 q2.f, .bool q2.neg, .slice A2 q2.num.length c2, .slice B2 q2.den.length d2] 26))); have hB2 := four_new w2 (.int .i64 q2.f) (.bool q2.neg) (.slice A2 q2.num.length c2) (.slice B2 q2.den.length d2) 26; clear hr he0 he) | (go_at_call 36; with_reducible refine (good2 (Sub2_calls (HA.out.ext HX.out) (HB.out.ext HX.out) rfl) HM3.out).mono ?_; rintro e w3 ⟨r, rfl, hr, he0⟩; obtain ⟨A3, c3, B3, d3, rfl⟩ := hr.form; have he := he0.alloc (.cells #[.int .i64 q3.f, .bool q3.neg, .slice A3 q3.num.length c3, .slice B3 q3.den.length d3] 26); replace HX := Aside.mk (HX.out.trans he); replace hP := Four.ext he hP; replace hQ := Four.ext he hQ; replace hB2 := Four.ext he hB2; replace HR2 := Aside.mk (HR2.out.ext he); have HR3 := Aside.mk (hr.rr.ext ((Ext.refl w3).alloc (.cells #[.int .i64 q3.f, .bool q3.neg, .slice A3 q3.num.length c3, .slice B3 q3.den.length d3] 26))); have hB3 := four_new w3 (.int .i64 q3.f) (.bool q3.neg) (.slice A3 q3.num.length c3) (.slice B3 q3.den.length d3) 26; clear hr he0 he) | (go_at_call 39; with_reducible refine (good2 (Mul2_calls (HA.out.ext HX.out) (HB.out.ext HX.out) rfl) HM4.out).mono ?_; rintro e w4 ⟨r, rfl, hr, he0⟩; obtain ⟨A4, c4, B4, d4, rfl⟩ := hr.form; have he := he0.alloc (.cells #[.int .i64 q4.f, .bool q4.neg, .slice A4 q4.num.length c4, .slice B4 q4.den.length d4] 26); replace HX := Aside.mk (HX.out.trans he); replace hP := Four.ext he hP; replace hQ := Four.ext he hQ; replace hB2 := Four.ext he hB2; replace HR2 := Aside.mk (HR2.out.ext he); replace hB3 := Four.ext he hB3; replace HR3 := Aside.mk (HR3.out.ext he); have HR4 := Aside.mk (hr.rr.ext ((Ext.refl w4).alloc (.cells #[.int .i64 q4.f, .bool q4.neg, .slice A4 q4.num.length c4, .slice B4 q4.den.length d4] 26))); have hB4 := four_new w4 (.int .i64 q4.f) (.bool q4.neg) (.slice A4 q4.num.length c4) (.slice B4 q4.den.length d4) 26; clear hr he0 he) | (go_at_call 40; with_reducible refine (good2 (Div2_calls (HA.out.ext HX.out) (HB.out.ext HX.out) rfl) HM5.out).mono ?_; rintro e w5 ⟨r, rfl, hr, he0⟩; obtain ⟨A5, c5, B5, d5, rfl⟩ := hr.form; have he := he0.alloc (.cells #[.int .i64 q5.f, .bool q5.neg, .slice A5 q5.num.length c5, .slice B5 q5.den.length d5] 26); replace HX := Aside.mk (HX.out.trans he); replace hP := Four.ext he hP; replace hB2 := Four.ext he hB2; replace HR2 := Aside.mk (HR2.out.ext he); replace hB3 := Four.ext he hB3; replace HR3 := Aside.mk (HR3.out.ext he); replace hB4 := Four.ext he hB4; replace HR4 := Aside.mk (HR4.out.ext he); have HR5 := Aside.mk (hr.rr.ext ((Ext.refl w5).alloc (.cells #[.int .i64 q5.f, .bool q5.neg, .slice A5 q5.num.length c5, .slice B5 q5.den.length d5] 26))); have hB5 := four_new w5 (.int .i64 q5.f) (.bool q5.neg) (.slice A5 q5.num.length c5) (.slice B5 q5.den.length d5) 26; clear hr he0 he) | (go_at_call 45; with_reducible refine (good2 (Floor2_calls (HA.out.ext HX.out) rfl) HM6.out).mono ?_; rintro e w6 ⟨r, rfl, hr, he0⟩; obtain ⟨A6, c6, B6, d6, rfl⟩ := hr.form; have he := he0.alloc (.cells #[.int .i64 q6.f, .bool q6.neg, .slice A6 q6.num.length c6, .slice B6 q6.den.length d6] 26); replace HX := Aside.mk (HX.out.trans he); replace hP := Four.ext he hP; replace hB2 := Four.ext he hB2; replace HR2 := Aside.mk (HR2.out.ext he); replace hB3 := Four.ext he hB3; replace HR3 := Aside.mk (HR3.out.ext he); replace hB4 := Four.ext he hB4; replace HR4 := Aside.mk (HR4.out.ext he); replace hB5 := Four.ext he hB5; replace HR5 := Aside.mk (HR5.out.ext he); have HR6 := Aside.mk (hr.rr.ext ((Ext.refl w6).alloc (.cells #[.int .i64 q6.f, .bool q6.neg, .slice A6 q6.num.length c6, .slice B6 q6.den.length d6] 26))); have hB6 := four_new w6 (.int .i64 q6.f) (.bool q6.neg) (.slice A6 q6.num.length c6) (.slice B6 q6.den.length d6) 26; clear hr he0 he) | (go_at_call 44; with_reducible refine (good_true HR2.out HK2.out).mono ?_; rintro e w7 ⟨rfl, he⟩; replace HX := Aside.mk (HX.out.trans he); replace hP := Four.ext he hP; replace hB3 := Four.ext he hB3; replace HR3 := Aside.mk (HR3.out.ext he); replace hB4 := Four.ext he hB4; replace HR4 := Aside.mk (HR4.out.ext he); replace hB5 := Four.ext he hB5; replace HR5 := Aside.mk (HR5.out.ext he); replace hB6 := Four.ext he hB6; replace HR6 := Aside.mk (HR6.out.ext he);  clear he) | (go_at_call 44; with_reducible refine (good_true HR3.out HK3.out).mono ?_; rintro e w7 ⟨rfl, he⟩; replace HX := Aside.mk (HX.out.trans he); replace hP := Four.ext he hP; replace hB4 := Four.ext he hB4; replace HR4 := Aside.mk (HR4.out.ext he); replace hB5 := Four.ext he hB5; replace HR5 := Aside.mk (HR5.out.ext he); replace hB6 := Four.ext he hB6; replace HR6 := Aside.mk (HR6.out.ext he);  clear he) | (go_at_call 44; with_reducible refine (good_true HR4.out HK4.out).mono ?_; rintro e w7 ⟨rfl, he⟩; replace HX := Aside.mk (HX.out.trans he); replace hP := Four.ext he hP; replace hB5 := Four.ext he hB5; replace HR5 := Aside.mk (HR5.out.ext he); replace hB6 := Four.ext he hB6; replace HR6 := Aside.mk (HR6.out.ext he);  clear he) | (go_at_call 44; with_reducible refine (good_true HR5.out HK5.out).mono ?_; rintro e w7 ⟨rfl, he⟩; replace HX := Aside.mk (HX.out.trans he); replace hP := Four.ext he hP; replace hB6 := Four.ext he hB6; replace HR6 := Aside.mk (HR6.out.ext he);  clear he) | (go_at_call 44; with_reducible refine (good_true HR6.out HK6.out).mono ?_; rintro e w7 ⟨rfl, he⟩; replace HX := Aside.mk (HX.out.trans he); replace hP := Four.ext he hP;  clear he) | (go_at_call 46; with_reducible refine (natural100 (HT.out.ext (HE1.out.trans HX.out)) HZ.out).mono ?_; rintro e w12 ⟨r, rfl, hr, he⟩; replace HX := Aside.mk (HX.out.trans he); replace hP := Four.ext he hP; have HZV := Aside.mk hr.rv; obtain ⟨AZ, cz, rfl, _⟩ := hr.form; (rw [HLZ.out] at HZV ⊢); clear hr he) | (go_at_call 23; with_reducible refine (alive_calls (HG.out.ext (HE1.out.trans HX.out))).mono ?_; rintro e w13 ⟨rfl, he⟩; have HEND := Aside.mk ((HE1.out.trans HX.out).trans he); clear he))
      go_ret
      exact ⟨rfl, HEND.out⟩
end Go.Proofs.YtgfkachfbnbikaaGreatDoor
