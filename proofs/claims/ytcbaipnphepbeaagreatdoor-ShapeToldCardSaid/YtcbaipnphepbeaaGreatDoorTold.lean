/- The law ShapeTold: it returns true. ShapeTold: of every input the call returns true, and each argument reads behind it as it read before. ShapeTold: the tied card holds: Parse of Text is the type, and Text of Parse is the text. Conditions: the package-level variables that the row lists start as the program's text lays them (the tie is given). -/
import Derived.Test.YtcbaipnphepbeaaGreatDoorNv
import Derived.Test.YtcbaipnphepbeaaGreatDoorNs
import Derived.Test.YtcbaipnphepbeaaGreatDoorNr
import Derived.ChangeMaps5
import Derived.Test.YtcbaipnphepbeaaGreatDoorCards
import Derived.Test.YtcbaipnphepbeaaGreatDoorTie
import Derived.SevenTiedAt
namespace Go.Proofs.YtcbaipnphepbeaaGreatDoor
open Go.RowKit
attribute [local go_sem ↓] Go.wp_at_zero Go.wp_at_succ

theorem two_new (w : World) {g : Nat} (hg : g = w.heap.size) (x0 x1 : Value) (t : TypeId) : Two (w.alloc (.cells #[x0, x1] t)) g x0 x1 := by
  subst hg; exact ⟨cell_new rfl rfl, cell_new rfl rfl⟩
theorem tyOk_mk {k : Int} {es : List Int} (hk : k = 1 ∨ k = 2) (hl : (es.length : Int) ≤ 3) (hs : Small es) : tyOk k es = true := by
  unfold tyOk
  have ha : es.any badd = false := by
    rw [List.any_eq_false]
    intro d hd
    have := hs d hd
    unfold badd
    simp
    omega
  rw [ha, if_pos hk]
  simp
  omega
theorem tyOk_index {d : Int} (h : 1 ≤ d ∧ d ≤ 8) : tyOk 3 [d] = true := by
  unfold tyOk
  have ha : [d].any badd = false := by
    unfold badd
    simp
    omega
  rw [ha, if_neg (by decide), if_pos rfl]
  simp
theorem tySame_self (k : Int) (ds : List Int) : tySame k ds k ds = true := by unfold tySame; simp
theorem parse_ok {w : World} {l : List UInt8} {s : ByteArray} {k : Int} {es : List Int} (hg : Glob3 w) (hs : bs l = s) (hl : l.length ≤ 1000000) (hm : parseS l = ((k, es), 0)) :
    Calls Tryz.prog 26 #[.string s] w fun e w' => ∃ D c, e = .returned (.tuple #[.agg #[.int .i64 k, .slice D es.length c], .int .i64 0]) ∧ Aside (TV w' (.agg #[.int .i64 k, .slice D es.length c]) k es) ∧ Ext w w' := by
  subst hs
  refine (shParse_calls hg hl hm).mono ?_
  rintro e w' ⟨⟨D, c, rfl, hs⟩, he⟩
  exact ⟨D, c, rfl, ⟨TV.mk hs.sv.iv⟩, he⟩
theorem parse_bad {w : World} {l : List UInt8} {s : ByteArray} (hg : Glob3 w) (hs : bs l = s) (hl : l.length ≤ 1000000) (hm : parseS l = ((0, []), 5)) :
    Calls Tryz.prog 26 #[.string s] w fun e w' => ∃ D c, e = .returned (.tuple #[.agg #[.int .i64 0, .slice D 0 c], .int .i64 5]) ∧ Ext w w' := by
  subst hs
  refine (shParse_calls hg hl hm).mono ?_
  rintro e w' ⟨⟨D, c, rfl, hs⟩, he⟩
  exact ⟨D, c, rfl, he⟩
/-- A type that tame makes. -/
theorem tame3 {w : World} {x : Value} {k : Int} {ds : List Int} (h : TL w x k ds) :
    Calls Tryz.prog 24 #[x, .int .i64 3] w fun e w' => ∃ (k' : Int) (es : List Int) (D : Option Addr) (n c : Nat), e = .returned (.agg #[.int .i64 k', .slice D n c]) ∧ Aside (es.length = n) ∧ Aside (tyOk k' es = true) ∧ Aside (TV w' (.agg #[.int .i64 k', .slice D n c]) k' es) ∧ Ext w w' := by
  refine (tame_calls h (by decide) (by decide)).mono ?_
  rintro e w' ⟨⟨k', es, D, c, rfl, hk, hl, hs, hro⟩, he⟩
  exact ⟨k', es, D, _, c, rfl, ⟨rfl⟩, ⟨tyOk_mk hk hl hs⟩, ⟨TV.mk hro.sv.iv⟩, he⟩
set_option maxRecDepth 10000 in
set_option maxHeartbeats 8000000 in
theorem lwTold_calls {w : World} {x : Value} {k : Int} {ds : List Int} {ix : Bool} {s0 : ByteArray} (hg : Glob3 w) (h : TL w x k ds) :
    Calls Tryz.prog 6 #[x, .bool ix, .string s0] w fun e w' => e = .returned (.bool true) ∧ Ext w w' := by
  have HG := Aside.mk hg
  have HX := Aside.mk h
  obtain ⟨u, rfl, hu⟩ := h
  obtain ⟨A, c, xs, rfl, _⟩ := hu
  generalize ds.length = n at *
  obtain ⟨l2, hl2⟩ : ∃ l, (s0.extract 0 (min (s0.size : Int) 100).toNat).data.toList = l := ⟨_, rfl⟩
  obtain ⟨s2, hs2⟩ : ∃ s, s0.extract 0 (min (s0.size : Int) 100).toNat = s := ⟨_, rfl⟩
  have HS2 : Aside (bs l2 = s2) := ⟨by rw [← hl2, hs2]; rfl⟩
  have HL2 : Aside (l2.length ≤ 1000000) := ⟨by
    rw [← hl2, ext_take]
    show (List.toArray _).toList.length ≤ _
    rw [List.length_take]; omega⟩
  have r0 := two_new w rfl (.int .i64 k) (.slice A n c) 25
  have e0 := Aside.mk ((Ext.refl w).alloc (.cells #[.int .i64 k, .slice A n c] 25))
  clear hg hl2
  cases ix
  · go_enter Tryz.func6, Tryz.ntmps6
    go_wp2_with (go_at_call 24; (with_reducible refine (tame3 (HX.out.ext e0.out)).mono ?_); rintro e w1 ⟨k2, es2, D2, n2, c2, rfl, HN2, HT2, HV2, f1⟩; have e1 := Aside.mk ((e0.out.trans f1).alloc (.cells #[.int .i64 k2, .slice D2 n2 c2] 25)); have h1 := two_new w1 rfl (.int .i64 k2) (.slice D2 n2 c2) 25; have r1 := r0.ext (f1.alloc (.cells #[.int .i64 k2, .slice D2 n2 c2] 25)))
    have h4 := h1
    have e4 := e1
    have HV4 := Aside.mk (HV2.out.ext ((Ext.refl w1).alloc (.cells #[.int .i64 k2, .slice D2 n2 c2] 25)))
    have HT4 := HT2
    have HN4 := HN2
    clear h1 e1 r0 r1 HV2 HT2 HN2 f1 HX e0
    obtain ⟨l4, hl4⟩ : ∃ l, tyText k2 es2 = l := ⟨_, rfl⟩
    obtain ⟨sB, hsB⟩ : ∃ b, tyB k2 es2 = b := ⟨_, rfl⟩
    have HSB := Aside.mk hsB
    have HSL : Aside (bs l4 = sB) := ⟨by rw [← hl4, ← hsB]; rfl⟩
    have HM1 := Aside.mk (parseS_yes HT4.out hl4)
    have HLL : Aside (l4.length ≤ 1000000) := ⟨by
      have h := tyB_size (k := k2) (tyOk_dims HT4.out)
      rw [hsB, ← HSL.out, bs_size] at h
      omega⟩
    have HSS : Aside (tySame k2 es2 k2 es2 = true) := ⟨tySame_self _ _⟩
    clear hl4 hsB
    rcases parseS_err (s := l2) with hm | hm
    · obtain ⟨p9, hp9⟩ : ∃ p, parseS l2 = p := ⟨_, rfl⟩
      obtain ⟨⟨k9, es9⟩, er⟩ := p9
      rw [hp9] at hm
      obtain rfl : er = 0 := hm
      have HM2 := Aside.mk hp9
      obtain ⟨ht9, hx9⟩ := parseS_ok hp9
      have HT9 := Aside.mk ht9
      have HS9 : Aside (tyB k9 es9 = s2) := ⟨by rw [← HS2.out, ← hx9]; rfl⟩
      obtain ⟨n9, hn9⟩ : ∃ n, es9.length = n := ⟨_, rfl⟩
      have HN9 := Aside.mk hn9
      clear hp9 ht9 hx9 hn9
      go_wp2_with (first | (go_at_call 32; (with_reducible refine (shText_calls (HG.out.ext e4.out) HV4.out HT4.out HSB.out).mono ?_); rintro e w5 ⟨rfl, f5⟩; have h5 := Two.ext f5 h4; have e5 := Aside.mk (e4.out.trans f5); have HV5 := Aside.mk (HV4.out.ext f5); clear h4 f5) | (go_at_call 26; (with_reducible refine (parse_ok (HG.out.ext e5.out) HSL.out HLL.out HM1.out).mono ?_); rw [HN4.out]; rintro e w6 ⟨D6, c6, rfl, HP6, f6⟩; have h6 := Two.ext (f6.alloc (.cells #[.int .i64 k2, .slice D6 n2 c6] 25)) h5; have p6 := two_new w6 rfl (.int .i64 k2) (.slice D6 n2 c6) 25; have e6 := Aside.mk ((e5.out.trans f6).alloc (.cells #[.int .i64 k2, .slice D6 n2 c6] 25)); have HV6 := Aside.mk (HV5.out.ext (f6.alloc (.cells #[.int .i64 k2, .slice D6 n2 c6] 25))); have HP7 := Aside.mk (HP6.out.ext ((Ext.refl w6).alloc (.cells #[.int .i64 k2, .slice D6 n2 c6] 25))); clear h5 f6) | (go_at_call 28; (with_reducible refine (rSame_calls HV6.out HP7.out HSS.out).mono ?_); rintro e w7 ⟨rfl, f7⟩; have h7 := Two.ext f7 h6; have p7 := Two.ext f7 p6; have e7 := Aside.mk (e6.out.trans f7); have HV7 := Aside.mk (HV6.out.ext f7); have HP8 := Aside.mk (HP7.out.ext f7); clear h6 p6 f7) | (go_at_call 33; (with_reducible refine (shSame_calls HV7.out HP8.out HSS.out).mono ?_); rintro e w8 ⟨rfl, f8⟩; have e8 := Aside.mk (e7.out.trans f8); clear h7 p7 f8) | (go_at_call 26; (with_reducible refine (parse_ok (HG.out.ext e8.out) HS2.out HL2.out HM2.out).mono ?_); rw [HN9.out]; rintro e w9 ⟨D9, c9, rfl, HP9, f9⟩; have p9 := two_new w9 rfl (.int .i64 k9) (.slice D9 n9 c9) 25; have e9 := Aside.mk ((e8.out.trans f9).alloc (.cells #[.int .i64 k9, .slice D9 n9 c9] 25)); have HQ9 := Aside.mk (HP9.out.ext ((Ext.refl w9).alloc (.cells #[.int .i64 k9, .slice D9 n9 c9] 25))); clear f9) | (go_at_call 32; (with_reducible refine (shText_calls (HG.out.ext e9.out) HQ9.out HT9.out HS9.out).mono ?_); rintro e w10 ⟨rfl, f10⟩; have p10 := Two.ext f10 p9; have e10 := Aside.mk (e9.out.trans f10); have HQ10 := Aside.mk (HQ9.out.ext f10); clear p9 f10) | (go_at_call 34; (with_reducible refine (isType_calls HQ10.out HT9.out).mono ?_); rintro e w11 ⟨rfl, f11⟩; have e11 := Aside.mk (e10.out.trans f11); clear p10 f11) | (go_at_call 19; (with_reducible refine (alive3_calls (HG.out.ext e11.out)).mono ?_); rintro e w12 ⟨rfl, f12⟩; have HEND := Aside.mk (e11.out.trans f12); clear f12))
      go_ret
      exact ⟨rfl, HEND.out⟩
    · have HM2 := Aside.mk hm
      clear hm
      go_wp2_with (first | (go_at_call 32; (with_reducible refine (shText_calls (HG.out.ext e4.out) HV4.out HT4.out HSB.out).mono ?_); rintro e w5 ⟨rfl, f5⟩; have h5 := Two.ext f5 h4; have e5 := Aside.mk (e4.out.trans f5); have HV5 := Aside.mk (HV4.out.ext f5); clear h4 f5) | (go_at_call 26; (with_reducible refine (parse_ok (HG.out.ext e5.out) HSL.out HLL.out HM1.out).mono ?_); rw [HN4.out]; rintro e w6 ⟨D6, c6, rfl, HP6, f6⟩; have h6 := Two.ext (f6.alloc (.cells #[.int .i64 k2, .slice D6 n2 c6] 25)) h5; have p6 := two_new w6 rfl (.int .i64 k2) (.slice D6 n2 c6) 25; have e6 := Aside.mk ((e5.out.trans f6).alloc (.cells #[.int .i64 k2, .slice D6 n2 c6] 25)); have HV6 := Aside.mk (HV5.out.ext (f6.alloc (.cells #[.int .i64 k2, .slice D6 n2 c6] 25))); have HP7 := Aside.mk (HP6.out.ext ((Ext.refl w6).alloc (.cells #[.int .i64 k2, .slice D6 n2 c6] 25))); clear h5 f6) | (go_at_call 28; (with_reducible refine (rSame_calls HV6.out HP7.out HSS.out).mono ?_); rintro e w7 ⟨rfl, f7⟩; have h7 := Two.ext f7 h6; have p7 := Two.ext f7 p6; have e7 := Aside.mk (e6.out.trans f7); have HV7 := Aside.mk (HV6.out.ext f7); have HP8 := Aside.mk (HP7.out.ext f7); clear h6 p6 f7) | (go_at_call 33; (with_reducible refine (shSame_calls HV7.out HP8.out HSS.out).mono ?_); rintro e w8 ⟨rfl, f8⟩; have e8 := Aside.mk (e7.out.trans f8); clear h7 p7 f8) | (go_at_call 26; (with_reducible refine (parse_bad (HG.out.ext e8.out) HS2.out HL2.out HM2.out).mono ?_); rintro e w9 ⟨D9, c9, rfl, f9⟩; have p9 := two_new w9 rfl (.int .i64 0) (.slice D9 0 c9) 25; have e9 := Aside.mk ((e8.out.trans f9).alloc (.cells #[.int .i64 0, .slice D9 0 c9] 25)); clear f9) | (go_at_call 19; (with_reducible refine (alive3_calls (HG.out.ext e9.out)).mono ?_); rintro e w10 ⟨rfl, f10⟩; have HEND := Aside.mk (e9.out.trans f10); clear f10))
      go_ret
      exact ⟨rfl, HEND.out⟩
  · go_enter Tryz.func6, Tryz.ntmps6
    go_wp2_with (go_at_call 24; (with_reducible refine (tame3 (HX.out.ext e0.out)).mono ?_); rintro e w1 ⟨k2, es2, D2, n2, c2, rfl, HN2, HT2, HV2, f1⟩; have e1 := Aside.mk ((e0.out.trans f1).alloc (.cells #[.int .i64 k2, .slice D2 n2 c2] 25)); have h1 := two_new w1 rfl (.int .i64 k2) (.slice D2 n2 c2) 25; have r1 := r0.ext (f1.alloc (.cells #[.int .i64 k2, .slice D2 n2 c2] 25)))
    refine (mod_calls (by decide) (by decide)).mono ?_
    rintro e wm ⟨r, rfl, hr0, hr1, rfl⟩
    obtain ⟨d, hd⟩ : ∃ d, 1 + r = d := ⟨_, rfl⟩
    have HD8 : Aside (1 ≤ d ∧ d ≤ 8) := ⟨by omega⟩
    have hw1 : IntKind.i64.wrap (1 + r) = d := by rw [← hd]; exact wrap_i64 _ (by omega) (by omega)
    have hw2 : wrap64 (1 + r) = d := by rw [← hd]; exact wrap64_id (by omega) (by omega)
    clear hd hr0 hr1
    go_wp2_with fail
    have h4 := Two.ext ((Ext.refl _).alloc (.cells #[.int .i64 d] 3)) (two_new w1 rfl (.int .i64 3) (.slice (some ⟨w1.heap.size + 1, 0, none⟩) 1 1) 25)
    have e4 := Aside.mk (((e0.out.trans f1).alloc (.cells #[.int .i64 3, .slice (some ⟨w1.heap.size + 1, 0, none⟩) 1 1] 25)).alloc (.cells #[.int .i64 d] 3))
    have hlit := SO.lit (e := 3) (R := IntC) (w1.alloc (.cells #[.int .i64 3, .slice (some ⟨w1.heap.size + 1, 0, none⟩) 1 1] 25)) [.int .i64 d] [d] (by simp) (rows_ints [d] _)
    have hsz : (w1.alloc (.cells #[.int .i64 3, .slice (some ⟨w1.heap.size + 1, 0, none⟩) 1 1] 25)).heap.size = w1.heap.size + 1 := by simp
    rw [hsz] at hlit
    have HV4 : Aside (TV ((w1.alloc (.cells #[.int .i64 3, .slice (some ⟨w1.heap.size + 1, 0, none⟩) 1 1] 25)).alloc (.cells #[.int .i64 d] 3)) (.agg #[.int .i64 3, .slice (some ⟨w1.heap.size + 1, 0, none⟩) 1 1]) 3 [d]) := ⟨TV.mk hlit.sv.iv⟩
    have HT4 := Aside.mk (tyOk_index HD8.out)
    have HN4 : Aside ([d].length = 1) := ⟨rfl⟩
    clear h1 e1 r0 r1 HV2 HT2 HN2 f1 HX e0 hlit hsz hw1 hw2
    obtain ⟨l4, hl4⟩ : ∃ l, tyText 3 [d] = l := ⟨_, rfl⟩
    obtain ⟨sB, hsB⟩ : ∃ b, tyB 3 [d] = b := ⟨_, rfl⟩
    have HSB := Aside.mk hsB
    have HSL : Aside (bs l4 = sB) := ⟨by rw [← hl4, ← hsB]; rfl⟩
    have HM1 := Aside.mk (parseS_yes HT4.out hl4)
    have HLL : Aside (l4.length ≤ 1000000) := ⟨by
      have h := tyB_size (k := 3) (tyOk_dims HT4.out)
      rw [hsB, ← HSL.out, bs_size] at h
      omega⟩
    have HSS : Aside (tySame 3 [d] 3 [d] = true) := ⟨tySame_self _ _⟩
    clear hl4 hsB
    rcases parseS_err (s := l2) with hm | hm
    · obtain ⟨p9, hp9⟩ : ∃ p, parseS l2 = p := ⟨_, rfl⟩
      obtain ⟨⟨k9, es9⟩, er⟩ := p9
      rw [hp9] at hm
      obtain rfl : er = 0 := hm
      have HM2 := Aside.mk hp9
      obtain ⟨ht9, hx9⟩ := parseS_ok hp9
      have HT9 := Aside.mk ht9
      have HS9 : Aside (tyB k9 es9 = s2) := ⟨by rw [← HS2.out, ← hx9]; rfl⟩
      obtain ⟨n9, hn9⟩ : ∃ n, es9.length = n := ⟨_, rfl⟩
      have HN9 := Aside.mk hn9
      clear hp9 ht9 hx9 hn9
      go_wp2_with (first | (go_at_call 32; (with_reducible refine (shText_calls (HG.out.ext e4.out) HV4.out HT4.out HSB.out).mono ?_); rintro e w5 ⟨rfl, f5⟩; have h5 := Two.ext f5 h4; have e5 := Aside.mk (e4.out.trans f5); have HV5 := Aside.mk (HV4.out.ext f5); clear h4 f5) | (go_at_call 26; (with_reducible refine (parse_ok (HG.out.ext e5.out) HSL.out HLL.out HM1.out).mono ?_); rw [HN4.out]; rintro e w6 ⟨D6, c6, rfl, HP6, f6⟩; have h6 := Two.ext (f6.alloc (.cells #[.int .i64 3, .slice D6 1 c6] 25)) h5; have p6 := two_new w6 rfl (.int .i64 3) (.slice D6 1 c6) 25; have e6 := Aside.mk ((e5.out.trans f6).alloc (.cells #[.int .i64 3, .slice D6 1 c6] 25)); have HV6 := Aside.mk (HV5.out.ext (f6.alloc (.cells #[.int .i64 3, .slice D6 1 c6] 25))); have HP7 := Aside.mk (HP6.out.ext ((Ext.refl w6).alloc (.cells #[.int .i64 3, .slice D6 1 c6] 25))); clear h5 f6) | (go_at_call 28; (with_reducible refine (rSame_calls HV6.out HP7.out HSS.out).mono ?_); rintro e w7 ⟨rfl, f7⟩; have h7 := Two.ext f7 h6; have p7 := Two.ext f7 p6; have e7 := Aside.mk (e6.out.trans f7); have HV7 := Aside.mk (HV6.out.ext f7); have HP8 := Aside.mk (HP7.out.ext f7); clear h6 p6 f7) | (go_at_call 33; (with_reducible refine (shSame_calls HV7.out HP8.out HSS.out).mono ?_); rintro e w8 ⟨rfl, f8⟩; have e8 := Aside.mk (e7.out.trans f8); clear h7 p7 f8) | (go_at_call 26; (with_reducible refine (parse_ok (HG.out.ext e8.out) HS2.out HL2.out HM2.out).mono ?_); rw [HN9.out]; rintro e w9 ⟨D9, c9, rfl, HP9, f9⟩; have p9 := two_new w9 rfl (.int .i64 k9) (.slice D9 n9 c9) 25; have e9 := Aside.mk ((e8.out.trans f9).alloc (.cells #[.int .i64 k9, .slice D9 n9 c9] 25)); have HQ9 := Aside.mk (HP9.out.ext ((Ext.refl w9).alloc (.cells #[.int .i64 k9, .slice D9 n9 c9] 25))); clear f9) | (go_at_call 32; (with_reducible refine (shText_calls (HG.out.ext e9.out) HQ9.out HT9.out HS9.out).mono ?_); rintro e w10 ⟨rfl, f10⟩; have p10 := Two.ext f10 p9; have e10 := Aside.mk (e9.out.trans f10); have HQ10 := Aside.mk (HQ9.out.ext f10); clear p9 f10) | (go_at_call 34; (with_reducible refine (isType_calls HQ10.out HT9.out).mono ?_); rintro e w11 ⟨rfl, f11⟩; have e11 := Aside.mk (e10.out.trans f11); clear p10 f11) | (go_at_call 19; (with_reducible refine (alive3_calls (HG.out.ext e11.out)).mono ?_); rintro e w12 ⟨rfl, f12⟩; have HEND := Aside.mk (e11.out.trans f12); clear f12))
      go_ret
      exact ⟨rfl, HEND.out⟩
    · have HM2 := Aside.mk hm
      clear hm
      go_wp2_with (first | (go_at_call 32; (with_reducible refine (shText_calls (HG.out.ext e4.out) HV4.out HT4.out HSB.out).mono ?_); rintro e w5 ⟨rfl, f5⟩; have h5 := Two.ext f5 h4; have e5 := Aside.mk (e4.out.trans f5); have HV5 := Aside.mk (HV4.out.ext f5); clear h4 f5) | (go_at_call 26; (with_reducible refine (parse_ok (HG.out.ext e5.out) HSL.out HLL.out HM1.out).mono ?_); rw [HN4.out]; rintro e w6 ⟨D6, c6, rfl, HP6, f6⟩; have h6 := Two.ext (f6.alloc (.cells #[.int .i64 3, .slice D6 1 c6] 25)) h5; have p6 := two_new w6 rfl (.int .i64 3) (.slice D6 1 c6) 25; have e6 := Aside.mk ((e5.out.trans f6).alloc (.cells #[.int .i64 3, .slice D6 1 c6] 25)); have HV6 := Aside.mk (HV5.out.ext (f6.alloc (.cells #[.int .i64 3, .slice D6 1 c6] 25))); have HP7 := Aside.mk (HP6.out.ext ((Ext.refl w6).alloc (.cells #[.int .i64 3, .slice D6 1 c6] 25))); clear h5 f6) | (go_at_call 28; (with_reducible refine (rSame_calls HV6.out HP7.out HSS.out).mono ?_); rintro e w7 ⟨rfl, f7⟩; have h7 := Two.ext f7 h6; have p7 := Two.ext f7 p6; have e7 := Aside.mk (e6.out.trans f7); have HV7 := Aside.mk (HV6.out.ext f7); have HP8 := Aside.mk (HP7.out.ext f7); clear h6 p6 f7) | (go_at_call 33; (with_reducible refine (shSame_calls HV7.out HP8.out HSS.out).mono ?_); rintro e w8 ⟨rfl, f8⟩; have e8 := Aside.mk (e7.out.trans f8); clear h7 p7 f8) | (go_at_call 26; (with_reducible refine (parse_bad (HG.out.ext e8.out) HS2.out HL2.out HM2.out).mono ?_); rintro e w9 ⟨D9, c9, rfl, f9⟩; have p9 := two_new w9 rfl (.int .i64 0) (.slice D9 0 c9) 25; have e9 := Aside.mk ((e8.out.trans f9).alloc (.cells #[.int .i64 0, .slice D9 0 c9] 25)); clear f9) | (go_at_call 19; (with_reducible refine (alive3_calls (HG.out.ext e9.out)).mono ?_); rintro e w10 ⟨rfl, f10⟩; have HEND := Aside.mk (e9.out.trans f10); clear f10))
      go_ret
      exact ⟨rfl, HEND.out⟩
end Go.Proofs.YtcbaipnphepbeaaGreatDoor

namespace Go.Proofs.YtcbaipnphepbeaaGreatDoor
open Go.RowKit Go.ChangeShapes Go.WideShapes Go.ChangeAt

set_option maxRecDepth 100000 in
theorem lwTold_lifted (os : Os) (started : os.Started) (H : Type) (enc : TypeId × Value → H) :
    ReturnsInHanded {} Tryz.checked os 6 .any (fun w args => (Rows.shapeToldSpec.pre enc Tryz.prog Tryz.f6 [] false w args ∧ laidMetH Tryz.prog Rows.shapeToldRow.laid w) ∧ sizedMet enc Tryz.prog Tryz.f6 (OpenSpec.ofChange Rows.shapeToldSpec) false w args)
      (Rows.shapeToldSpec.post enc Tryz.prog Tryz.f6 false true false false) := by
  refine returns_law (C := Tryz.checked) (X := fun w _ => laidMetH Tryz.prog Rows.shapeToldRow.laid w) (fun _ _ _ hh h => h.of_heap hh) Tryz.own started (by kernel_rfl) Tryz.func6
    (ChangeSpec.witness_shaped (enc := enc) (C := Tryz.checked) (os := os) (X := fun w _ => laidMetH Tryz.prog Rows.shapeToldRow.laid w) false (World.laidAll Tryz.prog os Rows.shapeToldRow.laid) #[.agg #[.int .i64 0, .slice none 0 0], .bool false, .string ⟨#[]⟩] 8 (World.laidAll_os _ _ _)
      (World.shaped_of_ZipB (by kernel_rfl) (by kernel_rfl)) (by kernel_rfl) (by kernel_rfl) (by kernel_rfl)
      (by rw [MakeChecks.laidMetH_plain _ _ _ (by kernel_rfl)]; exact laidMet_laidAll _ (by kernel_rfl) (by kernel_rfl))) ?_
  intro W base args ds gs before hval0 hW hL hsh
  have hval : ∀ (j : Nat) t v, Tryz.f6.params[j]? = some t → args[j]? = some v → Value.okWide Tryz.prog W .any base t v := hval0
  have hW' := hW
  obtain ⟨p, q, hA0, hV, rfl, hfz, hnd⟩ := hW
  have hA : DataW.TrodAll enc Tryz.prog W 0 (fun _ => true) true Tryz.f6.params.toList args.toList ds p := hA0
  have hA' := hA
  rw [Tryz.params6] at hA hval
  obtain ⟨v0, v1, v2, d0, d1, d2, p0, p1, p2, rfl, rfl, rfl, ⟨k0, h0⟩, h1, h2⟩ := trodAll_three hA
  obtain ⟨rfl, rfl⟩ := trodVars_none hV
  have hG := glob3_of (by kernel_rfl) rfl hL hsh
  obtain ⟨k1, ds1, ht1⟩ := ty_of (hval 0 25 v0 rfl rfl) h0
  obtain ⟨ix, rfl, rfl, rfl⟩ := open_bool Tryz.underlying4 (hval 1 4 v1 rfl rfl) h1
  obtain ⟨s0, rfl, rfl, rfl, _⟩ := Go.ChangeMaps.open_string Tryz.underlying9 (hval 2 9 v2 rfl rfl) h2
  refine (lwTold_calls hG ht1).mono fun e W' ⟨he, hw⟩ => ?_
  subst he
  refine ⟨_, rfl, law_post (ts := Tryz.f6.params.toList) rfl rfl rfl ?_ ⟨rfl, rfl, rfl⟩ hW' (by simpa using hA') hw⟩
  rw [Tryz.params6]
  exact read_all (by kernel_rfl)

theorem shapeTold_holds : Rows.ShapeToldSaid :=
  OpenClaim.holds_of_wide 6 Tryz.f6 rfl rfl rfl rfl rfl rfl rfl ⟨rfl, rfl, rfl, rfl, rfl⟩ rfl rfl rfl rfl rfl (by kernel_rfl) Tryz.func6 (by kernel_rfl)
    (of_decide_eq_true (by kernel_rfl)) (by unfold Func.isWrapper; first | (rw [if_neg (by decide +kernel)]; exact ⟨rfl, rfl⟩) | (rw [if_pos (by decide +kernel)]; kernel_rfl))
    (fun os started H enc _ => lwTold_lifted os started H enc)
end Go.Proofs.YtcbaipnphepbeaaGreatDoor

namespace Go.Proofs.YtcbaipnphepbeaaGreatDoor
open Go

set_option maxRecDepth 100000 in
theorem shapeTold_card : Rows.ShapeToldCardSaid :=
  Claim7.holds_tied_plain_at .later [] [.data, .data, .data, .data, .data] true (true, "74a4f590cf19fe5091db46413e7db25a7b9d51dc5c5273584579c29297515e2e") false
    shapeTold_holds (fun _ h => by cases h) (by kernel_rfl) (fun _ h => by cases h) shapeTold_row_tie rfl ⟨rfl, rfl⟩ (by kernel_rfl) rfl
    (fun f fn hf hfn => by
      obtain rfl : f = 6 := Option.some.inj ((show Tryz.prog.funcNamed "fluxion/fluxionlaw03.ShapeTold" = some 6 by kernel_rfl).symm.trans hf) |>.symm
      obtain rfl : fn = Tryz.f6 := (Option.some.inj (Tryz.func6.symm.trans hfn)).symm
      exact ⟨by kernel_rfl, fun j t ht => by
        rw [Tryz.params6] at ht
        have hm : t ∈ Tryz.f6.params.toList := by rw [Tryz.params6]; exact Array.mem_toList_iff.2 (Array.mem_of_getElem? ht)
        have hall : (Tryz.f6.params.toList.all fun u => !Tryz.prog.wantsStandIn u) = true := by kernel_rfl
        exact (show Tryz.prog.wantsStandIn t = false by simpa using List.all_eq_true.1 hall t hm)⟩)
    (by kernel_rfl)
#print axioms shapeTold_card
end Go.Proofs.YtcbaipnphepbeaaGreatDoor
