/- FracFloor: the call returns true. FracFloor: of every input the call returns true, and each argument reads behind it as it read before. FracFloor: the tied card holds: Floor is whole, at most the number, and the next whole number is greater; the Floor of a whole number is the number. Conditions: the package-level variables that the row lists start as the program's text lays them (the tie is given). -/
import Derived.Test.YtgfkachfbnbikaaGreatDoorMt
import Derived.Test.YtgfkachfbnbikaaGreatDoorMs
import Derived.Test.YtgfkachfbnbikaaGreatDoorMp
import Derived.Test.YtgfkachfbnbikaaGreatDoorCards
import Derived.Test.YtgfkachfbnbikaaGreatDoorTie
import Derived.SevenTiedAt
namespace Go.Proofs.YtgfkachfbnbikaaGreatDoor
open Go.RowKit

/-- The two cells of a box. -/
abbrev Two (w : World) (g : Nat) (x0 x1 : Value) : Prop := w.cell? ⟨g, 0, none⟩ = some x0 ∧ w.cell? ⟨g, 1, none⟩ = some x1
theorem Two.ext {a b : World} (e : Ext a b) {g : Nat} {x0 x1 : Value} (h : Two a g x0 x1) : Two b g x0 x1 := ⟨e.cell h.1, e.cell h.2⟩
theorem two_new (w : World) (x0 x1 : Value) (t : TypeId) : Two (w.alloc (.cells #[x0, x1] t)) w.heap.size x0 x1 := ⟨cell_new rfl rfl, cell_new rfl rfl⟩
theorem four_new (w : World) (x0 x1 x2 x3 : Value) (t : TypeId) : Four (w.alloc (.cells #[x0, x1, x2, x3] t)) w.heap.size x0 x1 x2 x3 := ⟨cell_new rfl rfl, cell_new rfl rfl, cell_new rfl rfl, cell_new rfl rfl⟩
theorem number60 {w : World} {f : Int} {neg : Bool} {sx sy : Value} {xs ys : List Nat} {q : Rq} (hx : RL w sx xs) (hy : RL w sy ys) (hq : tameq 0 neg xs ys 60 = q) :
    Calls Tryz.prog 55 #[.agg #[.int .i64 f, .bool neg, sx, sy], .int .i64 60] w fun e w' => ∃ r, e = .returned r ∧ RO w.heap.size w' r q ∧ Ext w w' := number_calls (most := 60) hx hy (by decide) hq
theorem RR.whole {w : World} {v : Value} {n : Bool} {m : Nat} (h : RR w v ⟨0, n, dig m, dig 1⟩) :
    ∃ A c ad d, v = .agg #[.int .i64 0, .bool n, .slice A (dig m).length c, .slice (some ad) 1 d] ∧ w.cell? ad = some (.int .u32 1) ∧ 1 ≤ d := by
  obtain ⟨x, y, rfl, h1, h2⟩ := h
  obtain ⟨A, c, rfl, _⟩ := h1
  obtain ⟨ad, k, d, z, rfl, hc, hz, hk, hl⟩ := h2.first2 (by decide)
  have hk0 : k = 0 := by rw [dig_one] at hl; simpa using hl.symm
  subst hk0
  subst hz
  exact ⟨A, c, ad, d, rfl, hc, hk⟩
theorem one_rr {w : World} {n k : Nat} (h1 : w.heap.size = n) (h2 : w.heap.size + 1 = k) :
    RR ((w.alloc (.cells #[.int .u32 1] 46)).alloc (.cells #[.int .u32 1] 46)) (.agg #[.int .i64 0, .bool false, .slice (some ⟨n, 0, none⟩) 1 1, .slice (some ⟨k, 0, none⟩) 1 1]) ⟨0, false, dig 1, dig 1⟩ :=
  ⟨_, _, rfl, (lit1r h1).ext ((Ext.refl _).alloc _), lit1r (by simpa using h2)⟩

abbrev KF1 (w : World) (P R : Nat) (ad : Addr) (a0 a1 a2 a3 b0 b1 b2 b3 : Value) (w' : World) : Prop := Aside (Ext w w') ∧ Four w' P a0 a1 a2 a3 ∧ Four w' R b0 b1 b2 b3 ∧ w'.cell? ad = some (.int .u32 1)
theorem KF1.ext {w w1 w2 : World} {P R : Nat} {ad : Addr} {a0 a1 a2 a3 b0 b1 b2 b3 : Value} (e : Ext w1 w2) (h : KF1 w P R ad a0 a1 a2 a3 b0 b1 b2 b3 w1) : KF1 w P R ad a0 a1 a2 a3 b0 b1 b2 b3 w2 := ⟨⟨h.1.out.trans e⟩, h.2.1.ext e, h.2.2.1.ext e, e.cell h.2.2.2⟩
abbrev KF2 (w : World) (P R N : Nat) (a0 a1 a2 a3 b0 b1 b2 b3 c0 c1 c2 c3 : Value) (w' : World) : Prop := Aside (Ext w w') ∧ Four w' P a0 a1 a2 a3 ∧ Four w' R b0 b1 b2 b3 ∧ Four w' N c0 c1 c2 c3
theorem KF2.ext {w w1 w2 : World} {P R N : Nat} {a0 a1 a2 a3 b0 b1 b2 b3 c0 c1 c2 c3 : Value} (e : Ext w1 w2) (h : KF2 w P R N a0 a1 a2 a3 b0 b1 b2 b3 c0 c1 c2 c3 w1) : KF2 w P R N a0 a1 a2 a3 b0 b1 b2 b3 c0 c1 c2 c3 w2 := ⟨⟨h.1.out.trans e⟩, h.2.1.ext e, h.2.2.1.ext e, h.2.2.2.ext e⟩
abbrev KF3 (w : World) (P R N L : Nat) (a0 a1 a2 a3 b0 b1 b2 b3 c0 c1 c2 c3 l0 l1 : Value) (w' : World) : Prop := Aside (Ext w w') ∧ Four w' P a0 a1 a2 a3 ∧ Four w' R b0 b1 b2 b3 ∧ Four w' N c0 c1 c2 c3 ∧ Two w' L l0 l1
abbrev KF4 (w : World) (R L M : Nat) (b0 b1 b2 b3 l0 l1 m0 m1 : Value) (w' : World) : Prop := Aside (Ext w w') ∧ Four w' R b0 b1 b2 b3 ∧ Two w' L l0 l1 ∧ Two w' M m0 m1
abbrev KF5 (w : World) (R L M G : Nat) (b0 b1 b2 b3 l0 l1 m0 m1 g0 g1 g2 g3 : Value) (w' : World) : Prop := Aside (Ext w w') ∧ Four w' R b0 b1 b2 b3 ∧ Two w' L l0 l1 ∧ Two w' M m0 m1 ∧ Four w' G g0 g1 g2 g3

set_option maxRecDepth 10000 in
set_option maxHeartbeats 4000000 in
theorem floor_law {w : World} {f1 : Int} {n1 : Bool} {sx sy : Value} {xs ys : List Nat} (hg : Glob w) (hx : RL w sx xs) (hy : RL w sy ys) :
    Calls Tryz.prog 11 #[.agg #[.int .i64 f1, .bool n1, sx, sy]] w fun e w' => e = .returned (.bool true) ∧ Ext w w' := by
  have HG := Aside.mk hg
  have HX := Aside.mk hx
  have HY := Aside.mk hy
  have h60x := @dig_take xs 60 hx.ds
  have h60y := @dig_take ys 60 hy.ds
  obtain ⟨a, ha⟩ : ∃ a, tameq 0 n1 xs ys 60 = a := ⟨_, rfl⟩
  have HQ := Aside.mk ha
  have hd1 : 0 < den1 (val (ys.take 60)) := by unfold den1; split <;> omega
  have hd2 : (dig (den1 (val (ys.take 60)))).length ≤ 60 := by
    unfold den1; split
    · rw [dig_one]; decide
    · exact h60y
  have k : IsNum a (val (xs.take 60) / Nat.gcd (val (xs.take 60)) (den1 (val (ys.take 60)))) (den1 (val (ys.take 60)) / Nat.gcd (val (xs.take 60)) (den1 (val (ys.take 60)))) := by
    rw [← ha]; exact ratio_is hd1 (by omega) (by omega)
  have hlp : (dig (val (xs.take 60) / Nat.gcd (val (xs.take 60)) (den1 (val (ys.take 60))))).length ≤ 60 := Nat.le_trans (dig_len_mono (Nat.div_le_self _ _)) h60x
  generalize val (xs.take 60) / Nat.gcd (val (xs.take 60)) (den1 (val (ys.take 60))) = p at *
  generalize den1 (val (ys.take 60)) / Nat.gcd (val (xs.take 60)) (den1 (val (ys.take 60))) = d at *
  clear ha hd1 hd2 h60x h60y
  obtain ⟨n, hn⟩ : ∃ n, a.neg = n := ⟨_, rfl⟩
  obtain ⟨m, hm⟩ : ∃ m, flo n p d = m := ⟨_, rfl⟩
  have hlm : (dig m).length ≤ 62 := by
    have h := @flo_le n p d
    rw [hm] at h
    exact Nat.le_trans (dig_len_mono h) (Nat.le_trans (len_add (m := 60) hlp (by rw [dig_one]; decide)) (by decide))
  obtain ⟨wn, hwn⟩ : ∃ z, (n && decide (0 < m)) = z := ⟨_, rfl⟩
  obtain ⟨nn, hnn⟩ : ∃ z, ((nxt n m).1 && decide (0 < (nxt n m).2)) = z := ⟨_, rfl⟩
  obtain ⟨mk, hmk⟩ : ∃ z, (nxt n m).2 = z := ⟨_, rfl⟩
  have hlk : (dig mk).length ≤ 64 := by
    have h := @nxt_le n m
    rw [hmk] at h
    exact Nat.le_trans (dig_len_mono h) (Nat.le_trans (len_add (m := 62) hlm (by rw [dig_one]; decide)) (by decide))
  have kn : n = true → 0 < p := fun h => k.neg (hn.trans h)
  have kw : IsNum ⟨0, wn, dig m, dig 1⟩ m 1 := hwn ▸ whole_is (by omega)
  have kk : IsNum ⟨0, nn, dig mk, dig 1⟩ mk 1 := by rw [← hnn, hmk]; exact whole_is (by omega)
  have k1 : IsNum ⟨0, false, dig 1, dig 1⟩ 1 1 := whole_is (n := false) (m := 1) (by rw [dig_one]; decide)
  have hvw : val (dig m) = m ∧ val (dig 1) = 1 ∧ val (dig mk) = mk := ⟨val_dig _, val_dig _, val_dig _⟩
  have hva : val a.num = p ∧ val a.den = d := ⟨by rw [k.num]; exact val_dig _, by rw [k.den]; exact val_dig _⟩
  have HKW := Aside.mk kw.ok
  have HKN := Aside.mk kk.ok
  have HMF : Aside (madeq a a (floorq a.neg (val a.num) (val a.den)) = (⟨0, wn, dig m, dig 1⟩, 0)) := ⟨madeq_good k.ok k.ok (by
    rw [madeq_self k.ok, if_pos k.f, hva.1, hva.2, hn]
    show ratio n (flo n p d) 1 = _
    rw [hm, ratio_whole (by omega), hwn])⟩
  have HMW : Aside (madeq ⟨0, wn, dig m, dig 1⟩ ⟨0, wn, dig m, dig 1⟩ (floorq wn (val (dig m)) (val (dig 1))) = (⟨0, wn, dig m, dig 1⟩, 0)) := ⟨madeq_good kw.ok kw.ok (by
    rw [madeq_self kw.ok, if_pos rfl, hvw.1, hvw.2.1]
    show ratio wn (flo wn m 1) 1 = _
    have e : flo wn m 1 = m := by unfold flo; rw [Nat.mod_one, Nat.div_one, if_neg (by omega)]
    rw [e, ratio_whole (by omega), ← hwn, Bool.and_assoc, Bool.and_self])⟩
  have HMN : Aside (madeq ⟨0, wn, dig m, dig 1⟩ ⟨0, false, dig 1, dig 1⟩ (sumq wn (val (dig m)) (val (dig 1)) false (val (dig 1)) (val (dig 1))) = (⟨0, nn, dig mk, dig 1⟩, 0)) := ⟨madeq_good kw.ok k1.ok (by
    unfold madeq
    rw [kw.ok, k1.ok, hvw.1, hvw.2.1]
    show sumq wn m 1 false 1 1 = _
    unfold sumq
    rw [← hwn]
    show ratio (nxt n m).1 (nxt n m).2 (1 * 1) = _
    rw [hmk, Nat.mul_one, ratio_whole (by omega), ← hmk, hnn])⟩
  have HML : Aside (askq a ⟨0, wn, dig m, dig 1⟩ (lessq a.neg (val a.num * val (dig 1)) wn (val (dig m) * val a.den)) = ((0, false), 0)) := ⟨by
    unfold askq
    rw [k.ok, kw.ok, hva.1, hva.2, hvw.1, hvw.2.1, Nat.mul_one, hn, ← hwn, ← hm, flo_less k.pos kn, k.f]
    rfl⟩
  have HMK : Aside (askq a ⟨0, nn, dig mk, dig 1⟩ (lessq a.neg (val a.num * val (dig 1)) nn (val (dig mk) * val a.den)) = ((0, true), 0)) := ⟨by
    unfold askq
    rw [k.ok, kk.ok, hva.1, hva.2, hvw.2.2, hvw.2.1, Nat.mul_one, hn, ← hnn, ← hmk, ← hm, nxt_less k.pos kn, k.f]
    rfl⟩
  have HFA : Aside (a.f = 0) := ⟨k.f⟩
  obtain ⟨la, hla⟩ : ∃ l, a.num.length = l := ⟨_, rfl⟩
  obtain ⟨ld, hld⟩ : ∃ l, a.den.length = l := ⟨_, rfl⟩
  obtain ⟨lm, hlm'⟩ : ∃ l, (dig m).length = l := ⟨_, rfl⟩
  obtain ⟨lk, hlk'⟩ : ∃ l, (dig mk).length = l := ⟨_, rfl⟩
  obtain ⟨l1, hl1⟩ : ∃ l, (dig 1).length = l := ⟨_, rfl⟩
  have HLA := Aside.mk hla
  have HLD := Aside.mk hld
  have HLM := Aside.mk hlm'
  have HLK := Aside.mk hlk'
  have HL1 := Aside.mk hl1
  have HNE := Aside.mk hn
  obtain ⟨AX, cx, rfl, _⟩ := hx
  obtain ⟨AY, cy, rfl, _⟩ := hy
  generalize xs.length = nx at *
  generalize ys.length = ny at *
  clear hg k kw kk k1 kn hvw hva hlp hlm hlk hm hwn hnn hmk hla hld hlm' hlk' hl1
  clear hn
  have hk0 := KeepB.init w (.int .i64 f1) (.bool n1) (.slice AX nx cx) (.slice AY ny cy) 26
  go_enter Tryz.func11, Tryz.ntmps11
  go_wp2_with (first | (go_at_call 55; with_reducible refine (number60 (HX.out.ext hk0.1.out) (HY.out.ext hk0.1.out) HQ.out).mono ?_; rintro e w1 ⟨r, rfl, hr, he⟩; have HA := Aside.mk hr.rr; have HE1 := Aside.mk (hk0.1.out.trans he); obtain ⟨A0, c0, B0, d0, rfl⟩ := hr.form; (rw [HFA.out, HNE.out, HLA.out, HLD.out] at HA ⊢); have hkA := KeepB.init w1 (.int .i64 0) (.bool n) (.slice A0 la c0) (.slice B0 ld d0) 26; clear hk0 hr he) | (go_at_call 45; with_reducible refine (good2 (Floor2_calls (HA.out.ext hkA.1.out) rfl) HMF.out).mono ?_; rintro e w2 ⟨r, rfl, hr, he⟩; have HW := Aside.mk hr.rr; have HE2 := Aside.mk (hkA.1.out.trans he); obtain ⟨A2, c2, ad, d2, rfl, hcell, hd2⟩ := hr.rr.whole; (rw [HLM.out] at HW ⊢); have hk2 : KF1 w2 w1.heap.size w2.heap.size ad (.int .i64 0) (.bool n) (.slice A0 la c0) (.slice B0 ld d0) (.int .i64 0) (.bool wn) (.slice A2 lm c2) (.slice (some ad) 1 d2) (w2.alloc (.cells #[.int .i64 0, .bool wn, .slice A2 lm c2, .slice (some ad) 1 d2] 26)) := ⟨⟨(Ext.refl _).alloc _⟩, (hkA.four.ext he).ext ((Ext.refl _).alloc _), four_new w2 _ _ _ _ _, ((Ext.refl _).alloc _).cell hcell⟩; clear hkA hr he hcell) | (go_at_call 44; with_reducible refine (good_true (HW.out.ext hk2.1.out) HKW.out).mono ?_; rintro e w3 ⟨rfl, he⟩; have hk3 := KF1.ext he hk2; clear hk2 he) | (go_at_call 35; with_reducible refine (good2 (Add2_calls (HW.out.ext (hk3.1.out.trans (((Ext.refl _).alloc _).trans ((Ext.refl _).alloc _)))) ?ho rfl) HMN.out).mono ?_; (case ho => exact one_rr rfl rfl); rintro e w4 ⟨r, rfl, hr, he⟩; have HN4 := Aside.mk hr.rr; have HE3 := Aside.mk (hk3.1.out.trans ((((Ext.refl _).alloc _).alloc _).trans he)); obtain ⟨A4, c4, B4, d4, rfl⟩ := hr.form; (rw [HLK.out, HL1.out] at HN4 ⊢); have hk4 : KF2 w4 w1.heap.size w2.heap.size w4.heap.size (.int .i64 0) (.bool n) (.slice A0 la c0) (.slice B0 ld d0) (.int .i64 0) (.bool wn) (.slice A2 lm c2) (.slice (some ad) 1 d2) (.int .i64 0) (.bool nn) (.slice A4 lk c4) (.slice B4 l1 d4) (w4.alloc (.cells #[.int .i64 0, .bool nn, .slice A4 lk c4, .slice B4 l1 d4] 26)) := ⟨⟨(Ext.refl _).alloc _⟩, (hk3.2.1.ext ((((Ext.refl _).alloc _).alloc _).trans he)).ext ((Ext.refl _).alloc _), (hk3.2.2.1.ext ((((Ext.refl _).alloc _).alloc _).trans he)).ext ((Ext.refl _).alloc _), four_new w4 _ _ _ _ _⟩; have HW4 := Aside.mk (HW.out.ext HE3.out); have HA4 := Aside.mk (HA.out.ext (HE2.out.trans HE3.out)); clear hk3 hr he) | (go_at_call 44; with_reducible refine (good_true (HN4.out.ext hk4.1.out) HKN.out).mono ?_; rintro e w5 ⟨rfl, he⟩; have hk5 := KF2.ext he hk4; clear hk4 he) | (go_at_call 56; with_reducible refine (Less2_calls (HA4.out.ext hk5.1.out) (HW4.out.ext hk5.1.out) HML.out).mono ?_; rintro e w6 ⟨rfl, he⟩; have hk6 : KF3 w4 w1.heap.size w2.heap.size w4.heap.size w6.heap.size (.int .i64 0) (.bool n) (.slice A0 la c0) (.slice B0 ld d0) (.int .i64 0) (.bool wn) (.slice A2 lm c2) (.slice (some ad) 1 d2) (.int .i64 0) (.bool nn) (.slice A4 lk c4) (.slice B4 l1 d4) (.int .i64 0) (.bool false) (w6.alloc (.cells #[.int .i64 0, .bool false] 55)) := ⟨⟨(hk5.1.out.trans he).alloc _⟩, (hk5.2.1.ext he).ext ((Ext.refl _).alloc _), (hk5.2.2.1.ext he).ext ((Ext.refl _).alloc _), (hk5.2.2.2.ext he).ext ((Ext.refl _).alloc _), two_new w6 _ _ _⟩; clear hk5 he) | (go_at_call 56; with_reducible refine (Less2_calls (HA4.out.ext hk6.1.out) (HN4.out.ext hk6.1.out) HMK.out).mono ?_; rintro e w7 ⟨rfl, he⟩; have hk7 : KF4 w4 w2.heap.size w6.heap.size w7.heap.size (.int .i64 0) (.bool wn) (.slice A2 lm c2) (.slice (some ad) 1 d2) (.int .i64 0) (.bool false) (.int .i64 0) (.bool true) (w7.alloc (.cells #[.int .i64 0, .bool true] 55)) := ⟨⟨(hk6.1.out.trans he).alloc _⟩, (hk6.2.2.1.ext he).ext ((Ext.refl _).alloc _), (hk6.2.2.2.2.ext he).ext ((Ext.refl _).alloc _), two_new w7 _ _ _⟩; clear hk6 he) | (go_at_call 45; with_reducible refine (good2 (Floor2_calls (HW4.out.ext hk7.1.out) rfl) HMW.out).mono ?_; rintro e w8 ⟨r, rfl, hr, he⟩; have HR8 := Aside.mk hr.rr; obtain ⟨A8, c8, B8, d8, rfl⟩ := hr.form; (rw [HLM.out, HL1.out] at HR8 ⊢); have hk8 : KF5 w4 w2.heap.size w6.heap.size w7.heap.size w8.heap.size (.int .i64 0) (.bool wn) (.slice A2 lm c2) (.slice (some ad) 1 d2) (.int .i64 0) (.bool false) (.int .i64 0) (.bool true) (.int .i64 0) (.bool wn) (.slice A8 lm c8) (.slice B8 l1 d8) (w8.alloc (.cells #[.int .i64 0, .bool wn, .slice A8 lm c8, .slice B8 l1 d8] 26)) := ⟨⟨(hk7.1.out.trans he).alloc _⟩, (hk7.2.1.ext he).ext ((Ext.refl _).alloc _), (hk7.2.2.1.ext he).ext ((Ext.refl _).alloc _), (hk7.2.2.2.ext he).ext ((Ext.refl _).alloc _), four_new w8 _ _ _ _ _⟩; clear hk7 hr he) | (go_at_call 17; with_reducible refine (gives_same (HR8.out.ext ((Ext.refl _).alloc _)) (HW4.out.ext hk8.1.out)).mono ?_; rintro e w9 ⟨rfl, he⟩; have HT := Aside.mk (hk8.1.out.trans he); clear hk8 he) | (go_at_call 23; with_reducible refine (alive_calls (HG.out.ext (HE1.out.trans ((HE2.out.trans HE3.out).trans HT.out)))).mono ?_; rintro e w10 ⟨rfl, he⟩; have HEND := Aside.mk ((HE1.out.trans ((HE2.out.trans HE3.out).trans HT.out)).trans he); clear he))
  go_ret
  exact ⟨rfl, HEND.out⟩
end Go.Proofs.YtgfkachfbnbikaaGreatDoor

namespace Go.Proofs.YtgfkachfbnbikaaGreatDoor
open Go.RowKit Go.ChangeShapes Go.WideShapes Go.ChangeAt

set_option maxRecDepth 100000 in
theorem floorlaw_lifted (os : Os) (started : os.Started) (H : Type) (enc : TypeId × Value → H) :
    ReturnsInHanded {} Tryz.checked os 11 .any (fun w args => (Rows.fracFloorSpec.pre enc Tryz.prog Tryz.f11 [] false w args ∧ laidMetH Tryz.prog Rows.fracFloorRow.laid w) ∧ sizedMet enc Tryz.prog Tryz.f11 (OpenSpec.ofChange Rows.fracFloorSpec) false w args)
      (Rows.fracFloorSpec.post enc Tryz.prog Tryz.f11 false true false false) := by
  refine returns_law (C := Tryz.checked) (X := fun w _ => laidMetH Tryz.prog Rows.fracFloorRow.laid w) (fun _ _ _ hh h => h.of_heap hh) Tryz.own started (by kernel_rfl) Tryz.func11
    (ChangeSpec.witness_shaped (enc := enc) (C := Tryz.checked) (os := os) (X := fun w _ => laidMetH Tryz.prog Rows.fracFloorRow.laid w) false (World.laidAll Tryz.prog os Rows.fracFloorRow.laid) #[.agg #[.int .i64 0, .bool false, .slice none 0 0, .slice none 0 0]] 8 (World.laidAll_os _ _ _)
      (World.shaped_of_ZipB (by kernel_rfl) (by kernel_rfl)) (by kernel_rfl) (by kernel_rfl) (by kernel_rfl)
      (by rw [MakeChecks.laidMetH_plain _ _ _ (by kernel_rfl)]; exact laidMet_laidAll _ (by kernel_rfl) (by kernel_rfl))) ?_
  intro W base args ds gs before hval0 hW hL hsh
  have hval : ∀ (j : Nat) t v, Tryz.f11.params[j]? = some t → args[j]? = some v → Value.okWide Tryz.prog W .any base t v := hval0
  have hW' := hW
  obtain ⟨p, q, hA0, hV, rfl, hfz, hnd⟩ := hW
  have hA : DataW.TrodAll enc Tryz.prog W 0 (fun _ => true) true Tryz.f11.params.toList args.toList ds p := hA0
  have hA' := hA
  rw [Tryz.params11] at hA hval
  obtain ⟨v0, d0, rfl, rfl, ⟨k0, h0⟩⟩ := trodAll_one hA
  obtain ⟨rfl, rfl⟩ := trodVars_none hV
  have hG := glob_of (by kernel_rfl) rfl hL hsh
  obtain ⟨f1, n1, sx1, sy1, xs1, ys1, rfl, hx1, hy1⟩ := rat_of (hval 0 26 v0 rfl rfl) h0
  refine (floor_law hG hx1 hy1).mono fun e W' ⟨he, hw⟩ => ?_
  subst he
  refine ⟨_, rfl, law_post (ts := Tryz.f11.params.toList) rfl rfl rfl ?_ ⟨rfl, rfl, rfl⟩ hW' (by simpa using hA') hw⟩
  rw [Tryz.params11]
  exact read_all (by kernel_rfl)

theorem fracFloor_holds : Rows.FracFloorSaid :=
  OpenClaim.holds_of_wide 11 Tryz.f11 rfl rfl rfl rfl rfl rfl rfl ⟨rfl, rfl, rfl, rfl, rfl⟩ rfl rfl rfl rfl rfl (by kernel_rfl) Tryz.func11 (by kernel_rfl)
    (of_decide_eq_true (by kernel_rfl)) (by unfold Func.isWrapper; first | (rw [if_neg (by decide +kernel)]; exact ⟨rfl, rfl⟩) | (rw [if_pos (by decide +kernel)]; kernel_rfl))
    (fun os started H enc _ => floorlaw_lifted os started H enc)
end Go.Proofs.YtgfkachfbnbikaaGreatDoor

namespace Go.Proofs.YtgfkachfbnbikaaGreatDoor
open Go

set_option maxRecDepth 100000 in
theorem fracFloor_card : Rows.FracFloorCardSaid :=
  Claim7.holds_tied_plain_at .later [] [.data, .data, .pinned] true (true, "d85da3931ba373f0f2d5a7ce168e29c3a5db8cee51669ffe15e332533fbaa330") false
    fracFloor_holds (fun _ h => by cases h) (by kernel_rfl) (fun _ h => by cases h) fracFloor_row_tie rfl ⟨rfl, rfl⟩ (by kernel_rfl) rfl
    (fun f fn hf hfn => by
      obtain rfl : f = 11 := Option.some.inj ((show Tryz.prog.funcNamed "fluxion/fluxionlaw02.FracFloor" = some 11 by kernel_rfl).symm.trans hf) |>.symm
      obtain rfl : fn = Tryz.f11 := (Option.some.inj (Tryz.func11.symm.trans hfn)).symm
      exact ⟨by kernel_rfl, fun j t ht => by
        rw [Tryz.params11] at ht
        have hm : t ∈ Tryz.f11.params.toList := by rw [Tryz.params11]; exact Array.mem_toList_iff.2 (Array.mem_of_getElem? ht)
        have hall : (Tryz.f11.params.toList.all fun u => !Tryz.prog.wantsStandIn u) = true := by kernel_rfl
        exact (show Tryz.prog.wantsStandIn t = false by simpa using List.all_eq_true.1 hall t hm)⟩)
    (by kernel_rfl)
#print axioms fracFloor_card
end Go.Proofs.YtgfkachfbnbikaaGreatDoor
