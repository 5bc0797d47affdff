/- Contracts of fluxionref03: Read. -/
import Derived.Test.YtcbaipnphepbeaaGreatDoorN4
import Derived.Test.YtcbaipnphepbeaaGreatDoorN3
import Derived.Test.YtcbaipnphepbeaaGreatDoorNo
import Derived.Test.YtcbaipnphepbeaaGreatDoorN6
namespace Go.Proofs.YtcbaipnphepbeaaGreatDoor
open Go.RowKit
attribute [local go_sem ↓] Go.wp_at_zero Go.wp_at_succ

theorem bits_stepN {w W W' : World} {nz g : Nat} {dims : List Int} {ws : List (List UInt8)} {x0 x1 xd xw xn xb y : Value} {ns : List Rq} {bts bts1 : List Bq} (hlo : w.heap.size < g) (hb : B4 W g x0 x1 xn xb) (hr : R4 w W) (h : RdRows nz g dims ws xd xw xn xb ns bts W) (hg : W.grownBy W' xb.ownBlock) (h1 : SO (g + 1) 46 2 BitC W' y bts1) :
    B4 W' g x0 x1 xn xb ∧ R4 w W' ∧ RdRows nz g dims ws xd xw xn y ns bts1 W' := by
  have hB : Below (g + 1) W W' := Below.grown (Below.refl _ _) hg h.lt h.bits.low
  exact ⟨hb.below (Nat.lt_succ_self _) hB, hr.below (Below.mono hB (by omega)), h.bit hg h1⟩
theorem nums_stepN {w W W' : World} {nz g : Nat} {dims : List Int} {ws : List (List UInt8)} {x0 x1 xd xw xn xb y : Value} {ns ns1 : List Rq} {bts : List Bq} (hlo : w.heap.size < g) (hb : B4 W g x0 x1 xn xb) (hr : R4 w W) (h : RdRows nz g dims ws xd xw xn xb ns bts W) (hg : W.grownBy W' xn.ownBlock) (h1 : SO (g + 1) 83 4 (RatO (g + 1)) W' y ns1) :
    B4 W' g x0 x1 xn xb ∧ R4 w W' ∧ RdRows nz g dims ws xd xw y xb ns1 bts W' := by
  have hB : Below (g + 1) W W' := Below.grown (Below.refl _ _) hg h.lt h.nums.low
  exact ⟨hb.below (Nat.lt_succ_self _) hB, hr.below (Below.mono hB (by omega)), h.num hg h1⟩
theorem rparse_w {w : World} {wj : List UInt8} {sj : ByteArray} {q : Rq} {pe : Int} (hsj : bs wj = sj) (hl : wj.length ≤ 20000) (hq : fparse wj = (q, pe)) :
    Calls Tryz.prog 81 #[.string sj] w fun e w' => ∃ A c B d, e = .returned (.tuple #[.agg #[.int .i64 q.f, .bool q.neg, .slice A q.num.length c, .slice B q.den.length d], .int .i64 pe]) ∧ RO w.heap.size w' (.agg #[.int .i64 q.f, .bool q.neg, .slice A q.num.length c, .slice B q.den.length d]) q ∧ Ext w w' := by
  subst hsj
  refine (rparse_calls (by rw [bs_size]; omega) hq).mono ?_
  rintro e w' ⟨r, rfl, hr, he⟩
  obtain ⟨A, c, B, d, rfl⟩ := hr.form
  exact ⟨A, c, B, d, rfl, hr, he⟩
theorem kindW_snoc (ws : List (List UInt8)) (x : List UInt8) : kindW (ws ++ [x]) = if x = yesT ∨ x = noT then 2 else kindW ws := by
  unfold kindW
  by_cases h : x = yesT ∨ x = noT
  · rw [if_pos h, if_pos]
    rcases h with rfl | rfl <;> simp
  · rw [if_neg h]
    have h1 : yesT ≠ x := fun e => h (.inl e.symm)
    have h2 : noT ≠ x := fun e => h (.inr e.symm)
    simp [h1, h2]
theorem kind_one {ws : List (List UInt8)} {x : List UInt8} (h : kindW ws = 1) (hx : x ∈ ws) : x ≠ yesT ∧ x ≠ noT := by
  unfold kindW at h
  split at h
  · cases h
  · rename_i hn
    exact ⟨fun e => hn (.inl (e ▸ hx)), fun e => hn (.inr (e ▸ hx))⟩
/-- A word's cell. -/
theorem word_cell {base : Nat} {W : World} {WA : Option Addr} {n c : Nat} {ws : List (List UInt8)} (h : SO base 9 1 StrC W (.slice WA n c) (ws.map bs)) {j : Nat} {wj : List UInt8} (hj : ws[j]? = some wj) :
    ∃ b o, WA = some ⟨b, o, none⟩ ∧ W.cell? ⟨b, o + j, none⟩ = some (.string (bs wj)) := by
  obtain ⟨ad, cs, rfl, _, h2, h3⟩ := h.sv.at' (by decide) j (a := bs wj) (by simp [hj])
  have hsp := h.sv.spot ad rfl
  obtain ⟨wb, wo, s⟩ := ad
  obtain rfl : s = none := hsp
  obtain rfl : cs = [.string (bs wj)] := h2
  have hcell := h3 0 _ rfl
  rw [(addr_of rfl _).2] at hcell
  simp only [Nat.mul_one, Nat.add_zero] at hcell
  exact ⟨wb, wo, rfl, hcell⟩
theorem NestP.no {w w' : World} {l : List UInt8} {e : Ending} (h : NestP w l e w') (hn : nestF l = none) : e = .returned (.tuple #[.slice none 0 0, .bool false]) ∧ Ext w w' := by
  obtain ⟨he, ⟨_, h⟩ | ⟨ds, A, c, h, _⟩⟩ := h
  · exact ⟨h, he⟩
  · rw [hn] at h; cases h
theorem NestP.yes {w w' : World} {l : List UInt8} {e : Ending} {ds : List Int} {d : Nat} (h : NestP w l e w') (hn : nestF l = some ds) (hd : ds.length = d) : ∃ A c, e = .returned (.tuple #[.slice A d c, .bool true]) ∧ SO w.heap.size 3 1 IntC w' (.slice A d c) ds ∧ Ext w w' := by
  subst hd
  obtain ⟨he, ⟨h, _⟩ | ⟨ds', A, c, h, h2, h3⟩⟩ := h
  · rw [hn] at h; cases h
  · rw [hn] at h
    obtain rfl := Option.some.inj h
    exact ⟨A, c, h2, h3, he⟩
theorem scal_len : ∀ (l cur : List UInt8), (scalF cur l).length ≤ l.length + cur.length ∧ ∀ x ∈ scalF cur l, x.length ≤ l.length + cur.length
  | [], cur => by
    unfold scalF
    split
    · simp
    · rename_i h
      have := List.length_pos_iff.2 h
      simp; omega
  | c :: t, cur => by
    unfold scalF
    split
    · have ih := scal_len t []
      split
      · refine ⟨by have := ih.1; simp at this ⊢; omega, fun x hx => by have := ih.2 x hx; simp at this ⊢; omega⟩
      · rename_i h
        have := List.length_pos_iff.2 h
        refine ⟨by have := ih.1; simp at this ⊢; omega, fun x hx => ?_⟩
        rcases List.mem_cons.1 hx with rfl | hx
        · simp <;> omega
        · have := ih.2 x hx; simp at this ⊢; omega
    · have ih := scal_len t (cur ++ [c])
      refine ⟨by have := ih.1; simp at this ⊢; omega, fun x hx => by have := ih.2 x hx; simp at this ⊢; omega⟩
/-! What the specification's Read returns -/
theorem rread_none {l : List UInt8} (h : ¬ 20000 < l.length) (hn : nestF l = none) : readF l = (zeroV, 5) := by
  rw [← rread_eq, rreadF, if_neg h, hn]
theorem rread_word {l : List UInt8} {ds : List Int} {ws : List (List UInt8)} (h : ¬ 20000 < l.length) (hn : nestF l = some ds) (hw : scalF [] l = ws) (hr : readW (kindW ws) ws = none) : readF l = (zeroV, 5) := by
  subst hw
  rw [← rread_eq, rreadF, if_neg h, hn]
  simp only
  rw [hr]
theorem rread_end {l : List UInt8} {ds : List Int} {ws : List (List UInt8)} {ns : List Rq} {bts : List Bq} {kk : Int} (h : ¬ 20000 < l.length) (hn : nestF l = some ds) (hw : scalF [] l = ws) (hk : kindW ws = kk) (hr : readW kk ws = some (ns, bts)) :
    readF l = if valOk ⟨kk, ds, ns, bts⟩ = true ∧ showV ⟨kk, ds, ns, bts⟩ = l then (⟨kk, ds, ns, bts⟩, 0) else (zeroV, 5) := by
  subst hw hk
  rw [← rread_eq, rreadF, if_neg h, hn]
  simp only
  rw [hr]
set_option maxRecDepth 10000 in
set_option maxHeartbeats 8000000 in
theorem rread_long {w : World} {l : List UInt8} (h : 20000 < l.length) :
    Calls Tryz.prog 29 #[.string (bs l)] w fun e w' => ∃ r, e = .returned (.tuple #[r, .int .i64 3]) ∧ VO w.heap.size w' r zeroV ∧ Ext w w' := by
  have hl : (20000 : Int) < ((bs l).size : Int) := by rw [bs_size]; omega
  clear h
  go_enter Tryz.func29, Tryz.ntmps29
  go_wp2
  refine bodyPost_ret (v := .tuple #[.agg #[.int .i64 0, .slice none 0 0, .slice none 0 0, .slice none 0 0], .int .i64 3]) (by simp [results, Tryz.results29, go_sem]) rfl ?_
  exact ⟨_, rfl, VO.zero _ _, (Ext.refl w).alloc _⟩
set_option maxRecDepth 10000 in
set_option maxHeartbeats 8000000 in
theorem rread_nest {w : World} {l : List UInt8} (hl : l.length ≤ 20000) (hn : nestF l = none) :
    Calls Tryz.prog 29 #[.string (bs l)] w fun e w' => ∃ r, e = .returned (.tuple #[r, .int .i64 5]) ∧ VO w.heap.size w' r zeroV ∧ Ext w w' := by
  have hr0 := R4.init w (.int .i64 0) (.slice none 0 0) (.slice none 0 0) (.slice none 0 0) 29
  have hl2 : ¬ (20000 : Int) < ((bs l).size : Int) := by rw [bs_size]; omega
  have HNF := Aside.mk hn
  have HNE : Aside (∀ {W : World}, Calls Tryz.prog 79 #[.string (bs l)] W fun e w' => NestP W l e w') := ⟨nested_calls hl⟩
  clear hl hn
  go_enter Tryz.func29, Tryz.ntmps29
  go_wp2_with (go_at_call 79; (with_reducible refine HNE.out.mono ?_); rintro e w2 hP; obtain ⟨rfl, he⟩ := hP.no HNF.out; have hr2 := R4.ext he hr0; clear hP he)
  have HK := Aside.mk hr2
  refine bodyPost_ret (v := .tuple #[.agg #[.int .i64 0, .slice none 0 0, .slice none 0 0, .slice none 0 0], .int .i64 5]) (by simp [results, Tryz.results29, go_sem, hr2]) rfl ?_
  exact ⟨_, rfl, VO.zero _ _, ext_set4 HK.out.1.out (Nat.le_refl _) _ _ _ _⟩
set_option maxRecDepth 10000 in
set_option maxHeartbeats 16000000 in
theorem rread_main {w : World} {l : List UInt8} {ds : List Int} {m : Vq × Int} (hz : 0 < w.heap.size) (hl : l.length ≤ 20000) (hn : nestF l = some ds) (hm : readF l = m) :
    Calls Tryz.prog 29 #[.string (bs l)] w fun e w' => ∃ r, e = .returned (.tuple #[r, .int .i64 m.2]) ∧ VO w.heap.size w' r m.1 ∧ Ext w w' := by
  have hr0 := R4.init w (.int .i64 0) (.slice none 0 0) (.slice none 0 0) (.slice none 0 0) 29
  have hl2 : ¬ (20000 : Int) < ((bs l).size : Int) := by rw [bs_size]; omega
  have HL20 := Aside.mk hl
  have HNF := Aside.mk hn
  have HM := Aside.mk hm
  obtain ⟨nz, hnz⟩ : ∃ k, w.heap.size = k + 1 := ⟨w.heap.size - 1, by omega⟩
  have HNZ := Aside.mk hnz
  obtain ⟨d, hd⟩ : ∃ n, ds.length = n := ⟨_, rfl⟩
  have HDS := Aside.mk hd
  obtain ⟨ws, hws⟩ : ∃ ws, scalF [] l = ws := ⟨_, rfl⟩
  have HWS := Aside.mk hws
  obtain ⟨n, hwn⟩ : ∃ n, ws.length = n := ⟨_, rfl⟩
  have HWN := Aside.mk hwn
  have hsl := scal_len l []
  rw [hws] at hsl
  have HLWS : Aside (∀ x ∈ ws, x.length ≤ 20000) := ⟨fun x hx => by have := hsl.2 x hx; simp at this; omega⟩
  have hn5 : n ≤ 20000 := by have := hsl.1; rw [hwn] at this; simp at this; omega
  obtain ⟨kk, hkk⟩ : ∃ k, kindW ws = k := ⟨_, rfl⟩
  have HKK := Aside.mk hkk
  have hk12 : kk = 1 ∨ kk = 2 := by rw [← hkk]; exact kindW_12 ws
  have HK12 := Aside.mk hk12
  have HNE : Aside (∀ {W : World}, Calls Tryz.prog 79 #[.string (bs l)] W fun e w' => NestP W l e w') := ⟨nested_calls hl⟩
  have HNOL : Aside (¬ 20000 < l.length) := ⟨by omega⟩
  clear hz hl hn hm hnz hd hws hwn hsl hkk hk12
  go_enter Tryz.func29, Tryz.ntmps29
  go_upto_block 0 with (first | (go_at_call 79; (with_reducible refine HNE.out.mono ?_); rintro e w2 hP; obtain ⟨DA, dc, rfl, hd, he⟩ := hP.yes HNF.out HDS.out; have hr2 := R4.ext he hr0; have HD2 := Aside.mk hd; clear hP he hd) | (go_at_call 80; (with_reducible refine (scalars_calls HL20.out HWS.out HWN.out).mono ?_); rintro e w3 ⟨WA, wc', rfl, hw, he⟩; have hr3 := R4.ext (((Ext.refl w2).alloc (.cells #[.int .i64 1, .slice DA d dc, .slice none 0 0, .slice none 0 0] 29)).trans he) hr2; have hb3 := (B4.new (w := w2) rfl (.int .i64 1) (.slice DA d dc) (.slice none 0 0) (.slice none 0 0) 29).ext he; have HW3 := Aside.mk hw; have HD3 := Aside.mk (HD2.out.ext IntC.ext (((Ext.refl w2).alloc (.cells #[.int .i64 1, .slice DA d dc, .slice none 0 0, .slice none 0 0] 29)).trans he)); clear he hw))
  have HROW3 : Aside (RdRows nz w2.heap.size ds ws (.slice DA d dc) (.slice WA n wc') (.slice none 0 0) (.slice none 0 0) [] [] w3) := ⟨by
    have hlt := hr2.lt
    have hnz := HNZ.out
    exact ⟨by omega, hb3.lt, HD3.out.mono (by simp; omega), (fun e => by
      obtain ⟨xs, ho⟩ := HD2.out.row
      have := (ho.lt _ e).2; omega), HW3.out.mono (by simp; omega), fun e => by
      have := HW3.out.low _ e
      simp at this; omega, SO.nil, SO.nil⟩⟩
  obtain ⟨g, hg⟩ : ∃ g, w2.heap.size = g := ⟨_, rfl⟩
  have HG : Aside (w.heap.size < g) := ⟨by have := hr2.lt; omega⟩
  rw [hg] at hb3 HROW3
  try rw [hg]
  clear hg hr2 hr0 HD2 HD3 HW3
  go_cut [] from 8 to 48 (fun wx => B4 wx g (.int .i64 kk) (.slice DA d dc) (.slice none 0 0) (.slice none 0 0) ∧ R4 w wx ∧ Aside (RdRows nz g ds ws (.slice DA d dc) (.slice WA n wc') (.slice none 0 0) (.slice none 0 0) [] [] wx))
  case first =>
    go_wp2
    go_loopw [8] (fun i wr => ∃ (j : Nat) (kc : Int), j ≤ n ∧ i = .int .i64 (j : Int) ∧ B4 wr g (.int .i64 kc) (.slice DA d dc) (.slice none 0 0) (.slice none 0 0) ∧ R4 w wr ∧ Aside (kc = kindW (ws.take j)) ∧ Aside (RdRows nz g ds ws (.slice DA d dc) (.slice WA n wc') (.slice none 0 0) (.slice none 0 0) [] [] wr)) (fun i _ => n - (intOf i).toNat)
    case atStart => exact ⟨0, 1, by omega, rfl, hb3, hr3, ⟨rfl⟩, HROW3⟩
    case round =>
      clear hb3 hr3 HROW3
      obtain ⟨j, kc, hj, rfl, hb7, hr7, HKC, HROW⟩ := hrel
      by_cases hlt : j < n
      · have hrow := HROW.out
        obtain ⟨wj, hwj⟩ : ∃ x, ws[j]? = some x := ⟨ws[j]'(by rw [HWN.out]; exact hlt), List.getElem?_eq_getElem _⟩
        obtain ⟨wb, wo, rfl, hcell⟩ := word_cell hrow.words hwj
        obtain ⟨sj, hsj⟩ : ∃ s, bs wj = s := ⟨_, rfl⟩
        rw [hsj] at hcell
        have HSJ := Aside.mk hsj
        obtain ⟨by', hby⟩ : ∃ b, (sj.toList == [121, 101, 115]) = b := ⟨_, rfl⟩
        obtain ⟨bn', hbn'⟩ : ∃ b, (sj.toList == [110, 111]) = b := ⟨_, rfl⟩
        have HBY : Aside (by' = decide (wj = yesT)) := ⟨by rw [← hby, ← HSJ.out, Lib.toList_data, bs_data]; exact list_beq _ _⟩
        have HBNO : Aside (bn' = decide (wj = noT)) := ⟨by rw [← hbn', ← HSJ.out, Lib.toList_data, bs_data]; exact list_beq _ _⟩
        have hp0 : (0 : Int) ≤ (j : Int) := Int.natCast_nonneg _
        have hp1 : (j : Int) < (n : Int) := by omega
        have HSN : Aside (kindW (ws.take (j + 1)) = if wj = yesT ∨ wj = noT then 2 else kc) := ⟨by rw [List.take_add_one, hwj, HKC.out]; exact kindW_snoc _ _⟩
        clear hrow hwj hsj
        cases by'
        · cases bn'
          · have HSF : Aside (kc = kindW (ws.take (j + 1))) := ⟨by
              have h1 := of_decide_eq_false HBY.out.symm
              have h2 := of_decide_eq_false HBNO.out.symm
              rw [HSN.out, if_neg (by rintro (h | h); exact h1 h; exact h2 h)]⟩
            go_wp2_with fail
            have HB9 := Aside.mk hb7
            have HR9 := Aside.mk hr7
            go_roundw
            case rel => exact ⟨j + 1, kc, by omega, by go_num, HB9.out, HR9.out, HSF, HROW⟩
            case measure => simp [intOf]; omega
          · have HSF : Aside (2 = kindW (ws.take (j + 1))) := ⟨by rw [HSN.out, if_pos (.inr (of_decide_eq_true HBNO.out.symm))]⟩
            go_wp2_with fail
            have HB9 := Aside.mk hb7
            have HR9 := Aside.mk hr7
            go_roundw
            case rel => exact ⟨j + 1, 2, by omega, by go_num, HB9.out.put 0 _, HR9.out.set HG.out 0 _, HSF, ⟨HROW.out.set 0 _⟩⟩
            case measure => simp [intOf]; omega
        · have HSF : Aside (2 = kindW (ws.take (j + 1))) := ⟨by rw [HSN.out, if_pos (.inl (of_decide_eq_true HBY.out.symm))]⟩
          go_wp2_with fail
          have HB9 := Aside.mk hb7
          have HR9 := Aside.mk hr7
          go_roundw
          case rel => exact ⟨j + 1, 2, by omega, by go_num, HB9.out.put 0 _, HR9.out.set HG.out 0 _, HSF, ⟨HROW.out.set 0 _⟩⟩
          case measure => simp [intOf]; omega
      · have hjn : j = n := by omega
        have hp1 : ¬ (j : Int) < (n : Int) := by omega
        have HKF : Aside (kc = kk) := ⟨by rw [HKC.out, hjn, ← HWN.out, List.take_length, HKK.out]⟩
        have HB9 := Aside.mk hb7
        have HR9 := Aside.mk hr7
        go_wp2_with fail
        go_meet
        exact ⟨by rw [← HKF.out]; exact HB9.out, HR9.out, HROW⟩
  case rest =>
    clear hb3 hr3 HROW3
    obtain ⟨hb3, hr3, HROW3⟩ := hcut
    go_wp2_with fail
    go_loopw [9] (fun i wr => ∃ (j : Nat) (NA : Option Addr) (nn nc : Nat) (BA : Option Addr) (bn bc : Nat), j ≤ n ∧ nn ≤ j ∧ bn ≤ j ∧ i = .int .i64 (j : Int) ∧ B4 wr g (.int .i64 kk) (.slice DA d dc) (.slice NA nn nc) (.slice BA bn bc) ∧ R4 w wr ∧
      Aside (∃ ns bts, readW kk (ws.take j) = some (ns, bts) ∧ ns.length = nn ∧ bts.length = bn ∧ RdRows nz g ds ws (.slice DA d dc) (.slice WA n wc') (.slice NA nn nc) (.slice BA bn bc) ns bts wr)) (fun i _ => n - (intOf i).toNat)
    case atStart => exact ⟨0, none, 0, 0, none, 0, 0, by omega, by omega, by omega, rfl, hb3, hr3, ⟨[], [], rfl, rfl, rfl, HROW3.out⟩⟩
    case round =>
      clear hb3 hr3 HROW3
      obtain ⟨j, NA, nn, nc, BA, bn, bc, hj, hnj, hbj, rfl, hb7, hr7, HS⟩ := hrel
      obtain ⟨ns, bts, hrw, hnn, hbn, hrow⟩ := HS.out
      have HRW := Aside.mk hrw
      have HNN := Aside.mk hnn
      have HBN := Aside.mk hbn
      have HROW := Aside.mk hrow
      clear HS hrw hnn hbn
      by_cases hlt : j < n
      · obtain ⟨wj, hwj⟩ : ∃ x, ws[j]? = some x := ⟨ws[j]'(by rw [HWN.out]; exact hlt), List.getElem?_eq_getElem _⟩
        obtain ⟨wb, wo, rfl, hcell⟩ := word_cell hrow.words hwj
        obtain ⟨sj, hsj⟩ : ∃ s, bs wj = s := ⟨_, rfl⟩
        rw [hsj] at hcell
        have HSJ := Aside.mk hsj
        obtain ⟨by', hby⟩ : ∃ b, (sj.toList == [121, 101, 115]) = b := ⟨_, rfl⟩
        obtain ⟨bn', hbn'⟩ : ∃ b, (sj.toList == [110, 111]) = b := ⟨_, rfl⟩
        have HBY : Aside (by' = decide (wj = yesT)) := ⟨by rw [← hby, ← HSJ.out, Lib.toList_data, bs_data]; exact list_beq _ _⟩
        have HBNO : Aside (bn' = decide (wj = noT)) := ⟨by rw [← hbn', ← HSJ.out, Lib.toList_data, bs_data]; exact list_beq _ _⟩
        have hp0 : (0 : Int) ≤ (j : Int) := Int.natCast_nonneg _
        have hp1 : (j : Int) < (n : Int) := by omega
        have HLW : Aside (wj.length ≤ 20000) := ⟨HLWS.out wj (List.mem_of_getElem? hwj)⟩
        obtain ⟨q, pe, hq⟩ : ∃ q pe, fparse wj = (q, pe) := ⟨_, _, rfl⟩
        have HQ := Aside.mk hq
        have HLR := Aside.mk (Nat.lt_of_lt_of_le hrow.lt (Nat.le_refl _))
        have HBAD : Aside (stepW kk wj = none → m = (zeroV, 5)) := ⟨fun h => by
          rw [← HM.out]
          exact rread_word HNOL.out HNF.out HWS.out (by rw [HKK.out]; exact readW_bad kk ws j wj hwj h)⟩
        have HNXT : Aside (∀ a b, stepW kk wj = some (a, b) → readW kk (ws.take (j + 1)) = some (ns ++ a, bts ++ b)) := ⟨fun a b h => by
          rw [List.take_add_one, hwj]
          show readW kk (ws.take j ++ [wj]) = _
          rw [readW_snoc, HRW.out]
          simp only
          rw [h]⟩
        have HMEM : Aside (wj ∈ ws) := ⟨List.mem_of_getElem? hwj⟩
        clear hrow hwj hsj hq
        rcases HK12.out with rfl | rfl
        · have hny := kind_one HKK.out HMEM.out
          obtain rfl : by' = false := by rw [HBY.out]; exact decide_eq_false hny.1
          obtain rfl : bn' = false := by rw [HBNO.out]; exact decide_eq_false hny.2
          have HNY := Aside.mk hny
          clear hny
          by_cases hpe : pe = 0
          · obtain rfl := hpe
            have HST : Aside (stepW 1 wj = some ([q], [])) := ⟨by
              unfold stepW; rw [if_neg (by simp), HQ.out, if_neg (by simp), if_neg (by decide)]⟩
            have HLB : Aside (ns.length + [q].length ≤ 1073741824) := ⟨by have := HNN.out; simp; omega⟩
            have HLB2 : Aside ((ns ++ [q]).length = nn + 1) := ⟨by simp [HNN.out]⟩
            have HNX := Aside.mk (HNXT.out _ _ HST.out)
            go_wp2_with (first | (go_at_call 81; (with_reducible refine (rparse_w HSJ.out HLW.out HQ.out).mono ?_); rintro e w5 ⟨A4, c4, Q4, d4, rfl, hro, he⟩; have hb8 := hb7.ext (he.alloc (.cells #[.int .i64 q.f, .bool q.neg, .slice A4 q.num.length c4, .slice Q4 q.den.length d4] 83)); have hr8 := R4.ext (he.alloc (.cells #[.int .i64 q.f, .bool q.neg, .slice A4 q.num.length c4, .slice Q4 q.den.length d4] 83)) hr7; have hc8 := (he.alloc (.cells #[.int .i64 q.f, .bool q.neg, .slice A4 q.num.length c4, .slice Q4 q.den.length d4] 83)).cell hcell; have HROW8 := Aside.mk (HROW.out.ext (he.alloc (.cells #[.int .i64 q.f, .bool q.neg, .slice A4 q.num.length c4, .slice Q4 q.den.length d4] 83))); have HRO := Aside.mk (hro.ext ((Ext.refl w5).alloc (.cells #[.int .i64 q.f, .bool q.neg, .slice A4 q.num.length c4, .slice Q4 q.den.length d4] 83))); have hx8 := B4.new (w := w5) rfl (.int .i64 q.f) (.bool q.neg) (.slice A4 q.num.length c4) (.slice Q4 q.den.length d4) 83; clear hro he) | (at_builtin; refine append_so (R := RatO (g + 1)) (g + 1) elemRat rfl _ _ rfl _ _ ns [q] (HROW8.out.ext ((Ext.refl _).alloc (.cells #[.int .i64 q.f, .bool q.neg, .slice A4 q.num.length c4, .slice Q4 q.den.length d4] 83))).nums (one_rat2 (g := w5.heap.size + 1) (by simp) HRO.out HLR.out) RatO.one (fun _ hg => RatO.grown (HROW8.out.ext ((Ext.refl _).alloc (.cells #[.int .i64 q.f, .bool q.neg, .slice A4 q.num.length c4, .slice Q4 q.den.length d4] 83))).nums (by decide) hg) rfl rfl (HROW8.out.ext ((Ext.refl _).alloc (.cells #[.int .i64 q.f, .bool q.neg, .slice A4 q.num.length c4, .slice Q4 q.den.length d4] 83))).lt HLB.out ?_; intro v1 w6 ho hg; obtain ⟨A5, c5, rfl, _⟩ := ho.sv.form; rw [HLB2.out] at ho ⊢; obtain ⟨hb9, hr9, hrow9⟩ := nums_stepN HG.out (hb8.ext ((Ext.refl _).alloc (.cells #[.int .i64 q.f, .bool q.neg, .slice A4 q.num.length c4, .slice Q4 q.den.length d4] 83))) (R4.ext ((Ext.refl _).alloc (.cells #[.int .i64 q.f, .bool q.neg, .slice A4 q.num.length c4, .slice Q4 q.den.length d4] 83)) hr8) (HROW8.out.ext ((Ext.refl _).alloc (.cells #[.int .i64 q.f, .bool q.neg, .slice A4 q.num.length c4, .slice Q4 q.den.length d4] 83))) hg ho; have HROW9 := Aside.mk hrow9; clear ho hg hrow9))
            have HB9 := Aside.mk hb9
            have HR9 := Aside.mk hr9
            go_roundw
            case rel => exact ⟨j + 1, A5, nn + 1, c5, BA, bn, bc, by omega, by omega, by omega, by go_num, HB9.out.put 2 _, HR9.out.set HG.out 2 _, ⟨_, bts ++ [], HNX.out, HLB2.out, by simp [HBN.out], by rw [List.append_nil]; exact HROW9.out.set 2 _⟩⟩
            case measure => simp [intOf]; omega
          · have hpe1 : (pe == 0) = false := beq_eq_false_iff_ne.2 hpe
            have hpe2 : (pe != 0) = true := by simp [bne, hpe1]
            have HST : Aside (stepW 1 wj = none) := ⟨by
              unfold stepW; rw [if_neg (by simp), HQ.out, if_pos (.inl hpe)]⟩
            clear hpe
            have HMB := Aside.mk (HBAD.out HST.out)
            go_wp2_with (go_at_call 81; (with_reducible refine (rparse_w HSJ.out HLW.out HQ.out).mono ?_); rintro e w5 ⟨A4, c4, Q4, d4, rfl, hro, he⟩; have hb8 := hb7.ext (he.alloc (.cells #[.int .i64 q.f, .bool q.neg, .slice A4 q.num.length c4, .slice Q4 q.den.length d4] 83)); have hr8 := R4.ext (he.alloc (.cells #[.int .i64 q.f, .bool q.neg, .slice A4 q.num.length c4, .slice Q4 q.den.length d4] 83)) hr7; have hc8 := (he.alloc (.cells #[.int .i64 q.f, .bool q.neg, .slice A4 q.num.length c4, .slice Q4 q.den.length d4] 83)).cell hcell; have HROW8 := Aside.mk (HROW.out.ext (he.alloc (.cells #[.int .i64 q.f, .bool q.neg, .slice A4 q.num.length c4, .slice Q4 q.den.length d4] 83))); have HRO := Aside.mk (hro.ext ((Ext.refl w5).alloc (.cells #[.int .i64 q.f, .bool q.neg, .slice A4 q.num.length c4, .slice Q4 q.den.length d4] 83))); have hx8 := B4.new (w := w5) rfl (.int .i64 q.f) (.bool q.neg) (.slice A4 q.num.length c4) (.slice Q4 q.den.length d4) 83; clear hro he)
            have HR9 := Aside.mk hr8
            refine bodyPost_ret (v := .tuple #[.agg #[.int .i64 0, .slice none 0 0, .slice none 0 0, .slice none 0 0], .int .i64 5]) (by simp [results, Tryz.results29, go_sem, hr8]) rfl ?_
            rw [HMB.out]
            exact ⟨_, rfl, VO.zero _ _, ext_set4 HR9.out.1.out (Nat.le_refl _) _ _ _ _⟩
        · by_cases hpe : pe = 0
          · obtain rfl := hpe
            have hny : ¬ (wj = yesT ∨ wj = noT) := fun h => yesno_parse h (by rw [HQ.out])
            obtain rfl : by' = false := by rw [HBY.out]; exact decide_eq_false (fun h => hny (.inl h))
            obtain rfl : bn' = false := by rw [HBNO.out]; exact decide_eq_false (fun h => hny (.inr h))
            by_cases hf : q.f = 0
            · have hf1 : (q.f == 0) = true := by simp [hf]
              have hf2 : (q.f != 0) = false := by simp [bne, hf1]
              have HST : Aside (stepW 2 wj = none) := ⟨by
                unfold stepW; rw [if_neg (fun h => hny h.2), HQ.out, if_pos (.inr ⟨rfl, hf⟩)]⟩
              clear hf hny
              have HMB := Aside.mk (HBAD.out HST.out)
              go_wp2_with (go_at_call 81; (with_reducible refine (rparse_w HSJ.out HLW.out HQ.out).mono ?_); rintro e w5 ⟨A4, c4, Q4, d4, rfl, hro, he⟩; have hb8 := hb7.ext (he.alloc (.cells #[.int .i64 q.f, .bool q.neg, .slice A4 q.num.length c4, .slice Q4 q.den.length d4] 83)); have hr8 := R4.ext (he.alloc (.cells #[.int .i64 q.f, .bool q.neg, .slice A4 q.num.length c4, .slice Q4 q.den.length d4] 83)) hr7; have hc8 := (he.alloc (.cells #[.int .i64 q.f, .bool q.neg, .slice A4 q.num.length c4, .slice Q4 q.den.length d4] 83)).cell hcell; have HROW8 := Aside.mk (HROW.out.ext (he.alloc (.cells #[.int .i64 q.f, .bool q.neg, .slice A4 q.num.length c4, .slice Q4 q.den.length d4] 83))); have HRO := Aside.mk (hro.ext ((Ext.refl w5).alloc (.cells #[.int .i64 q.f, .bool q.neg, .slice A4 q.num.length c4, .slice Q4 q.den.length d4] 83))); have hx8 := B4.new (w := w5) rfl (.int .i64 q.f) (.bool q.neg) (.slice A4 q.num.length c4) (.slice Q4 q.den.length d4) 83; clear hro he)
              have HR9 := Aside.mk hr8
              refine bodyPost_ret (v := .tuple #[.agg #[.int .i64 0, .slice none 0 0, .slice none 0 0, .slice none 0 0], .int .i64 5]) (by simp [results, Tryz.results29, go_sem, hr8]) rfl ?_
              rw [HMB.out]
              exact ⟨_, rfl, VO.zero _ _, ext_set4 HR9.out.1.out (Nat.le_refl _) _ _ _ _⟩
            · have hf1 : (q.f == 0) = false := beq_eq_false_iff_ne.2 hf
              have hf2 : (q.f != 0) = true := by simp [bne, hf1]
              have HST : Aside (stepW 2 wj = some ([], [⟨q.f, false⟩])) := ⟨by
                unfold stepW; rw [if_neg (fun h => hny h.2), HQ.out, if_neg (by rintro (h | h); exact h rfl; exact hf h.2), if_pos rfl]⟩
              clear hf hny
              have HLB : Aside (bts.length + [(⟨q.f, false⟩ : Bq)].length ≤ 1073741824) := ⟨by have := HBN.out; simp; omega⟩
              have HLB2 : Aside ((bts ++ [(⟨q.f, false⟩ : Bq)]).length = bn + 1) := ⟨by simp [HBN.out]⟩
              have HNX := Aside.mk (HNXT.out _ _ HST.out)
              go_wp2_with (first | (go_at_call 81; (with_reducible refine (rparse_w HSJ.out HLW.out HQ.out).mono ?_); rintro e w5 ⟨A4, c4, Q4, d4, rfl, hro, he⟩; have hb8 := hb7.ext (he.alloc (.cells #[.int .i64 q.f, .bool q.neg, .slice A4 q.num.length c4, .slice Q4 q.den.length d4] 83)); have hr8 := R4.ext (he.alloc (.cells #[.int .i64 q.f, .bool q.neg, .slice A4 q.num.length c4, .slice Q4 q.den.length d4] 83)) hr7; have hc8 := (he.alloc (.cells #[.int .i64 q.f, .bool q.neg, .slice A4 q.num.length c4, .slice Q4 q.den.length d4] 83)).cell hcell; have HROW8 := Aside.mk (HROW.out.ext (he.alloc (.cells #[.int .i64 q.f, .bool q.neg, .slice A4 q.num.length c4, .slice Q4 q.den.length d4] 83))); have HRO := Aside.mk (hro.ext ((Ext.refl w5).alloc (.cells #[.int .i64 q.f, .bool q.neg, .slice A4 q.num.length c4, .slice Q4 q.den.length d4] 83))); have hx8 := B4.new (w := w5) rfl (.int .i64 q.f) (.bool q.neg) (.slice A4 q.num.length c4) (.slice Q4 q.den.length d4) 83; clear hro he) | (at_builtin; refine append_so (R := BitC) (g + 1) elemBit rfl _ _ rfl _ _ bts [⟨q.f, false⟩] (HROW8.out.ext ((Ext.refl _).alloc (.cells #[.int .i64 q.f, .bool false] 46))).bits (one_bit (g := w5.heap.size + 1) (by simp)) BitC.one (fun _ _ _ _ h => h) rfl rfl (HROW8.out.ext ((Ext.refl _).alloc (.cells #[.int .i64 q.f, .bool false] 46))).lt HLB.out ?_; intro v1 w6 ho hg; obtain ⟨A5, c5, rfl, _⟩ := ho.sv.form; rw [HLB2.out] at ho ⊢; obtain ⟨hb9, hr9, hrow9⟩ := bits_stepN HG.out (hb8.ext ((Ext.refl _).alloc (.cells #[.int .i64 q.f, .bool false] 46))) (R4.ext ((Ext.refl _).alloc (.cells #[.int .i64 q.f, .bool false] 46)) hr8) (HROW8.out.ext ((Ext.refl _).alloc (.cells #[.int .i64 q.f, .bool false] 46))) hg ho; have HROW9 := Aside.mk hrow9; clear ho hg hrow9))
              have HB9 := Aside.mk hb9
              have HR9 := Aside.mk hr9
              go_roundw
              case rel => exact ⟨j + 1, NA, nn, nc, A5, bn + 1, c5, by omega, by omega, by omega, by go_num, HB9.out.put 3 _, HR9.out.set HG.out 3 _, ⟨ns ++ [], _, HNX.out, by simp [HNN.out], HLB2.out, by rw [List.append_nil]; exact HROW9.out.set 3 _⟩⟩
              case measure => simp [intOf]; omega
          · have hpe1 : (pe == 0) = false := beq_eq_false_iff_ne.2 hpe
            have hpe2 : (pe != 0) = true := by simp [bne, hpe1]
            have HPE := Aside.mk hpe
            clear hpe
            cases by'
            · have HNY := Aside.mk (of_decide_eq_false HBY.out.symm)
              cases bn'
              · have HNO := Aside.mk (of_decide_eq_false HBNO.out.symm)
                have HST : Aside (stepW 2 wj = none) := ⟨by
                  unfold stepW; rw [if_neg (by rintro ⟨_, h | h⟩; exact HNY.out h; exact HNO.out h), HQ.out, if_pos (.inl HPE.out)]⟩
                have HMB := Aside.mk (HBAD.out HST.out)
                go_wp2_with (go_at_call 81; (with_reducible refine (rparse_w HSJ.out HLW.out HQ.out).mono ?_); rintro e w5 ⟨A4, c4, Q4, d4, rfl, hro, he⟩; have hb8 := hb7.ext (he.alloc (.cells #[.int .i64 q.f, .bool q.neg, .slice A4 q.num.length c4, .slice Q4 q.den.length d4] 83)); have hr8 := R4.ext (he.alloc (.cells #[.int .i64 q.f, .bool q.neg, .slice A4 q.num.length c4, .slice Q4 q.den.length d4] 83)) hr7; have hc8 := (he.alloc (.cells #[.int .i64 q.f, .bool q.neg, .slice A4 q.num.length c4, .slice Q4 q.den.length d4] 83)).cell hcell; have HROW8 := Aside.mk (HROW.out.ext (he.alloc (.cells #[.int .i64 q.f, .bool q.neg, .slice A4 q.num.length c4, .slice Q4 q.den.length d4] 83))); have HRO := Aside.mk (hro.ext ((Ext.refl w5).alloc (.cells #[.int .i64 q.f, .bool q.neg, .slice A4 q.num.length c4, .slice Q4 q.den.length d4] 83))); have hx8 := B4.new (w := w5) rfl (.int .i64 q.f) (.bool q.neg) (.slice A4 q.num.length c4) (.slice Q4 q.den.length d4) 83; clear hro he)
                have HR9 := Aside.mk hr8
                refine bodyPost_ret (v := .tuple #[.agg #[.int .i64 0, .slice none 0 0, .slice none 0 0, .slice none 0 0], .int .i64 5]) (by simp [results, Tryz.results29, go_sem, hr8]) rfl ?_
                rw [HMB.out]
                exact ⟨_, rfl, VO.zero _ _, ext_set4 HR9.out.1.out (Nat.le_refl _) _ _ _ _⟩
              · have HST : Aside (stepW 2 wj = some ([], [⟨0, false⟩])) := ⟨by
                  unfold stepW; rw [if_pos ⟨rfl, .inr (of_decide_eq_true HBNO.out.symm)⟩, decide_eq_false HNY.out]⟩
                have HLB : Aside (bts.length + [(⟨0, false⟩ : Bq)].length ≤ 1073741824) := ⟨by have := HBN.out; simp; omega⟩
                have HLB2 : Aside ((bts ++ [(⟨0, false⟩ : Bq)]).length = bn + 1) := ⟨by simp [HBN.out]⟩
                have HNX := Aside.mk (HNXT.out _ _ HST.out)
                go_wp2_with (go_at_call 81; (with_reducible refine (rparse_w HSJ.out HLW.out HQ.out).mono ?_); rintro e w5 ⟨A4, c4, Q4, d4, rfl, hro, he⟩; have hb8 := hb7.ext (he.alloc (.cells #[.int .i64 q.f, .bool q.neg, .slice A4 q.num.length c4, .slice Q4 q.den.length d4] 83)); have hr8 := R4.ext (he.alloc (.cells #[.int .i64 q.f, .bool q.neg, .slice A4 q.num.length c4, .slice Q4 q.den.length d4] 83)) hr7; have hc8 := (he.alloc (.cells #[.int .i64 q.f, .bool q.neg, .slice A4 q.num.length c4, .slice Q4 q.den.length d4] 83)).cell hcell; have HROW8 := Aside.mk (HROW.out.ext (he.alloc (.cells #[.int .i64 q.f, .bool q.neg, .slice A4 q.num.length c4, .slice Q4 q.den.length d4] 83))); have HRO := Aside.mk (hro.ext ((Ext.refl w5).alloc (.cells #[.int .i64 q.f, .bool q.neg, .slice A4 q.num.length c4, .slice Q4 q.den.length d4] 83))); have hx8 := B4.new (w := w5) rfl (.int .i64 q.f) (.bool q.neg) (.slice A4 q.num.length c4) (.slice Q4 q.den.length d4) 83; clear hro he)
                have hbW := hb8.ext ((Ext.refl _).drew)
                have hcW := ((Ext.refl (w5.alloc (.cells #[.int .i64 q.f, .bool q.neg, .slice A4 q.num.length c4, .slice Q4 q.den.length d4] 83))).drew).cell hc8
                have hcD := (((Ext.refl (w5.alloc (.cells #[.int .i64 q.f, .bool q.neg, .slice A4 q.num.length c4, .slice Q4 q.den.length d4] 83))).alloc (.cells #[.int .i64 0, .bool false] 46)).drew).cell hc8
                have hbD := hb8.ext (((Ext.refl (w5.alloc (.cells #[.int .i64 q.f, .bool q.neg, .slice A4 q.num.length c4, .slice Q4 q.den.length d4] 83))).alloc (.cells #[.int .i64 0, .bool false] 46)).drew)
                have hrD := R4.ext (((Ext.refl (w5.alloc (.cells #[.int .i64 q.f, .bool q.neg, .slice A4 q.num.length c4, .slice Q4 q.den.length d4] 83))).alloc (.cells #[.int .i64 0, .bool false] 46)).drew) hr8
                have HROWD := Aside.mk (HROW8.out.ext (((Ext.refl (w5.alloc (.cells #[.int .i64 q.f, .bool q.neg, .slice A4 q.num.length c4, .slice Q4 q.den.length d4] 83))).alloc (.cells #[.int .i64 0, .bool false] 46)).drew))
                have HONED := Aside.mk (SV.ext BitC.ext (one_bit (w := w5.alloc (.cells #[.int .i64 q.f, .bool q.neg, .slice A4 q.num.length c4, .slice Q4 q.den.length d4] 83)) (g := (w5.alloc (.cells #[.int .i64 q.f, .bool q.neg, .slice A4 q.num.length c4, .slice Q4 q.den.length d4] 83)).heap.size) (f := 0) (on := false) rfl) ((Ext.refl _).drew))
                go_region_law (refine step_append_so (R := BitC) (W := ((w5.alloc (.cells #[.int .i64 q.f, .bool q.neg, .slice A4 q.num.length c4, .slice Q4 q.den.length d4] 83)).alloc (.cells #[.int .i64 0, .bool false] 46)).drew) (g + 1) elemBit rfl (.tmp 115) (.tmp 122) rfl (.slice BA bn bc) (.slice (some ⟨(w5.alloc (.cells #[.int .i64 q.f, .bool q.neg, .slice A4 q.num.length c4, .slice Q4 q.den.length d4] 83)).heap.size, 0, none⟩) 1 1) bts [⟨0, false⟩] HROWD.out.bits HONED.out BitC.one (fun _ _ _ _ h => h) (by simp [Act.eval]) (by simp [Act.eval]) HROWD.out.lt HLB.out ?_; rintro v1 w6 ho hg; obtain ⟨A5, c5, rfl, _⟩ := ho.sv.form; rw [HLB2.out] at ho ⊢; obtain ⟨hb9, hr9, hrow9⟩ := bits_stepN HG.out hbD hrD HROWD.out hg ho; have HROW9 := Aside.mk hrow9; clear ho hg hrow9)
                all_goals
                  have HB9 := Aside.mk hb9
                  have HR9 := Aside.mk hr9
                  clear hbW hbD hrD hcW hcD hb8 hr8 hx8 hc8
                  go_wp2_with fail
                  go_roundw
                  case rel => exact ⟨j + 1, NA, nn, nc, A5, bn + 1, c5, by omega, by omega, by omega, by go_num, HB9.out.put 3 _, HR9.out.set HG.out 3 _, ⟨ns ++ [], _, HNX.out, by simp [HNN.out], HLB2.out, by rw [List.append_nil]; exact HROW9.out.set 3 _⟩⟩
                  case measure => simp [intOf]; omega
            · have HST : Aside (stepW 2 wj = some ([], [⟨0, true⟩])) := ⟨by
                have h1 := of_decide_eq_true HBY.out.symm
                unfold stepW; rw [if_pos ⟨rfl, .inl h1⟩, decide_eq_true h1]⟩
              have HLB : Aside (bts.length + [(⟨0, true⟩ : Bq)].length ≤ 1073741824) := ⟨by have := HBN.out; simp; omega⟩
              have HLB2 : Aside ((bts ++ [(⟨0, true⟩ : Bq)]).length = bn + 1) := ⟨by simp [HBN.out]⟩
              have HNX := Aside.mk (HNXT.out _ _ HST.out)
              go_wp2_with (go_at_call 81; (with_reducible refine (rparse_w HSJ.out HLW.out HQ.out).mono ?_); rintro e w5 ⟨A4, c4, Q4, d4, rfl, hro, he⟩; have hb8 := hb7.ext (he.alloc (.cells #[.int .i64 q.f, .bool q.neg, .slice A4 q.num.length c4, .slice Q4 q.den.length d4] 83)); have hr8 := R4.ext (he.alloc (.cells #[.int .i64 q.f, .bool q.neg, .slice A4 q.num.length c4, .slice Q4 q.den.length d4] 83)) hr7; have hc8 := (he.alloc (.cells #[.int .i64 q.f, .bool q.neg, .slice A4 q.num.length c4, .slice Q4 q.den.length d4] 83)).cell hcell; have HROW8 := Aside.mk (HROW.out.ext (he.alloc (.cells #[.int .i64 q.f, .bool q.neg, .slice A4 q.num.length c4, .slice Q4 q.den.length d4] 83))); have HRO := Aside.mk (hro.ext ((Ext.refl w5).alloc (.cells #[.int .i64 q.f, .bool q.neg, .slice A4 q.num.length c4, .slice Q4 q.den.length d4] 83))); have hx8 := B4.new (w := w5) rfl (.int .i64 q.f) (.bool q.neg) (.slice A4 q.num.length c4) (.slice Q4 q.den.length d4) 83; clear hro he)
              have hbW := hb8.ext ((Ext.refl _).drew)
              have hcW := ((Ext.refl (w5.alloc (.cells #[.int .i64 q.f, .bool q.neg, .slice A4 q.num.length c4, .slice Q4 q.den.length d4] 83))).drew).cell hc8
              have hcD := (((Ext.refl (w5.alloc (.cells #[.int .i64 q.f, .bool q.neg, .slice A4 q.num.length c4, .slice Q4 q.den.length d4] 83))).alloc (.cells #[.int .i64 0, .bool true] 46)).drew).cell hc8
              have hbD := hb8.ext (((Ext.refl (w5.alloc (.cells #[.int .i64 q.f, .bool q.neg, .slice A4 q.num.length c4, .slice Q4 q.den.length d4] 83))).alloc (.cells #[.int .i64 0, .bool true] 46)).drew)
              have hrD := R4.ext (((Ext.refl (w5.alloc (.cells #[.int .i64 q.f, .bool q.neg, .slice A4 q.num.length c4, .slice Q4 q.den.length d4] 83))).alloc (.cells #[.int .i64 0, .bool true] 46)).drew) hr8
              have HROWD := Aside.mk (HROW8.out.ext (((Ext.refl (w5.alloc (.cells #[.int .i64 q.f, .bool q.neg, .slice A4 q.num.length c4, .slice Q4 q.den.length d4] 83))).alloc (.cells #[.int .i64 0, .bool true] 46)).drew))
              have HONED := Aside.mk (SV.ext BitC.ext (one_bit (w := w5.alloc (.cells #[.int .i64 q.f, .bool q.neg, .slice A4 q.num.length c4, .slice Q4 q.den.length d4] 83)) (g := (w5.alloc (.cells #[.int .i64 q.f, .bool q.neg, .slice A4 q.num.length c4, .slice Q4 q.den.length d4] 83)).heap.size) (f := 0) (on := true) rfl) ((Ext.refl _).drew))
              go_region_law (refine step_append_so (R := BitC) (W := ((w5.alloc (.cells #[.int .i64 q.f, .bool q.neg, .slice A4 q.num.length c4, .slice Q4 q.den.length d4] 83)).alloc (.cells #[.int .i64 0, .bool true] 46)).drew) (g + 1) elemBit rfl (.tmp 115) (.tmp 122) rfl (.slice BA bn bc) (.slice (some ⟨(w5.alloc (.cells #[.int .i64 q.f, .bool q.neg, .slice A4 q.num.length c4, .slice Q4 q.den.length d4] 83)).heap.size, 0, none⟩) 1 1) bts [⟨0, true⟩] HROWD.out.bits HONED.out BitC.one (fun _ _ _ _ h => h) (by simp [Act.eval]) (by simp [Act.eval]) HROWD.out.lt HLB.out ?_; rintro v1 w6 ho hg; obtain ⟨A5, c5, rfl, _⟩ := ho.sv.form; rw [HLB2.out] at ho ⊢; obtain ⟨hb9, hr9, hrow9⟩ := bits_stepN HG.out hbD hrD HROWD.out hg ho; have HROW9 := Aside.mk hrow9; clear ho hg hrow9)
              all_goals
                have HB9 := Aside.mk hb9
                have HR9 := Aside.mk hr9
                clear hbW hbD hrD hcW hcD hb8 hr8 hx8 hc8
                go_wp2_with fail
                go_roundw
                case rel => exact ⟨j + 1, NA, nn, nc, A5, bn + 1, c5, by omega, by omega, by omega, by go_num, HB9.out.put 3 _, HR9.out.set HG.out 3 _, ⟨ns ++ [], _, HNX.out, by simp [HNN.out], HLB2.out, by rw [List.append_nil]; exact HROW9.out.set 3 _⟩⟩
                case measure => simp [intOf]; omega
      · have hjn : j = n := by omega
        have hp1 : ¬ (j : Int) < (n : Int) := by omega
        have HRW2 : Aside (readW kk ws = some (ns, bts)) := ⟨by have := HRW.out; rwa [hjn, ← HWN.out, List.take_length] at this⟩
        have HMM : Aside ((if valOk ⟨kk, ds, ns, bts⟩ = true ∧ showV ⟨kk, ds, ns, bts⟩ = l then ((⟨kk, ds, ns, bts⟩ : Vq), (0 : Int)) else (zeroV, 5)) = m) := ⟨by
          rw [← HM.out]; exact (rread_end HNOL.out HNF.out HWS.out HKK.out HRW2.out).symm⟩
        have HVV : Aside (VV wr (.agg #[.int .i64 kk, (.slice DA d dc), .slice NA nn nc, .slice BA bn bc]) ⟨kk, ds, ns, bts⟩) := ⟨⟨_, _, _, rfl, hrow.dims.sv.iv, hrow.nums.sv.mono fun _ _ h => h.c, hrow.bits.sv⟩⟩
        obtain ⟨t, ht⟩ : ∃ t, valOk ⟨kk, ds, ns, bts⟩ = t := ⟨_, rfl⟩
        have HVT := Aside.mk ht
        clear hrow ht
        cases t
        · have HME : Aside (m = (zeroV, 5)) := ⟨by rw [← HMM.out, if_neg (fun h => by rw [HVT.out] at h; cases h.1)]⟩
          go_wp2_with (go_at_call 14; (with_reducible refine (rIsValue_calls HVV.out HVT.out).mono ?_); rintro e w10 ⟨rfl, he⟩; have hb10 := hb7.ext he; have hr10 := R4.ext he hr7; have HV10 := Aside.mk (HVV.out.ext he); have HROW10 := Aside.mk (HROW.out.ext he); clear he)
          have HR9 := Aside.mk hr10
          refine bodyPost_ret (v := .tuple #[.agg #[.int .i64 0, .slice none 0 0, .slice none 0 0, .slice none 0 0], .int .i64 5]) (by simp [results, Tryz.results29, go_sem, hr10]) rfl ?_
          rw [HME.out]
          exact ⟨_, rfl, VO.zero _ _, ext_set4 HR9.out.1.out (Nat.le_refl _) _ _ _ _⟩
        · obtain ⟨sv, hsv⟩ : ∃ s, (⟨(showV ⟨kk, ds, ns, bts⟩).toArray⟩ : ByteArray) = s := ⟨_, rfl⟩
          have HSV := Aside.mk hsv
          obtain ⟨b, hb⟩ : ∃ b, (sv.toList == (bs l).toList) = b := ⟨_, rfl⟩
          have HB : Aside (b = decide (showV ⟨kk, ds, ns, bts⟩ = l)) := ⟨by rw [← hb, toList_beq, ← hsv]; rfl⟩
          have hb2 : (sv.toList != (bs l).toList) = !b := by simp [bne, hb]
          clear hsv
          cases b
          · have HME : Aside (m = (zeroV, 5)) := ⟨by rw [← HMM.out, if_neg (fun h => (of_decide_eq_false HB.out.symm) h.2)]⟩
            go_wp2_with (first | (go_at_call 14; (with_reducible refine (rIsValue_calls HVV.out HVT.out).mono ?_); rintro e w10 ⟨rfl, he⟩; have hb10 := hb7.ext he; have hr10 := R4.ext he hr7; have HV10 := Aside.mk (HVV.out.ext he); have HROW10 := Aside.mk (HROW.out.ext he); clear he) | (go_at_call 20; (with_reducible refine (rShow_calls HV10.out HVT.out HSV.out).mono ?_); rintro e w11 ⟨rfl, he⟩; have hb11 := hb10.ext he; have hr11 := R4.ext he hr10; have HROW11 := Aside.mk (HROW10.out.ext he); clear he))
            have HR9 := Aside.mk hr11
            refine bodyPost_ret (v := .tuple #[.agg #[.int .i64 0, .slice none 0 0, .slice none 0 0, .slice none 0 0], .int .i64 5]) (by simp [results, Tryz.results29, go_sem, hr11]) rfl ?_
            rw [HME.out]
            exact ⟨_, rfl, VO.zero _ _, ext_set4 HR9.out.1.out (Nat.le_refl _) _ _ _ _⟩
          · have HME : Aside (m = (⟨kk, ds, ns, bts⟩, 0)) := ⟨by rw [← HMM.out, if_pos ⟨HVT.out, of_decide_eq_true HB.out.symm⟩]⟩
            go_wp2_with (first | (go_at_call 14; (with_reducible refine (rIsValue_calls HVV.out HVT.out).mono ?_); rintro e w10 ⟨rfl, he⟩; have hb10 := hb7.ext he; have hr10 := R4.ext he hr7; have HV10 := Aside.mk (HVV.out.ext he); have HROW10 := Aside.mk (HROW.out.ext he); clear he) | (go_at_call 20; (with_reducible refine (rShow_calls HV10.out HVT.out HSV.out).mono ?_); rintro e w11 ⟨rfl, he⟩; have hb11 := hb10.ext he; have hr11 := R4.ext he hr10; have HROW11 := Aside.mk (HROW10.out.ext he); clear he))
            have HR9 := Aside.mk hr11
            refine bodyPost_ret (v := .tuple #[.agg #[.int .i64 kk, (.slice DA d dc), .slice NA nn nc, .slice BA bn bc], .int .i64 0]) (by simp [results, Tryz.results29, go_sem, hr11]) rfl ?_
            rw [HME.out]
            have hg0 := HG.out
            have hz0 := HNZ.out
            refine ⟨_, rfl, ⟨_, _, _, rfl, ?_, ?_, ?_⟩, ext_set4 HR9.out.1.out (Nat.le_refl _) _ _ _ _⟩
            · exact ((HROW11.out.dims.set4 (by omega) _ _ _ _ (fun _ _ _ _ _ _ h => h)).mono (by omega))
            · exact ((HROW11.out.nums.set4 (by omega) _ _ _ _ (fun w p hp u c a h => RatO.set hp u c a h)).mono (by omega)).monoR (fun _ _ h => h.mono (by omega))
            · exact ((HROW11.out.bits.set4 (by omega) _ _ _ _ (fun _ _ _ _ _ _ h => h)).mono (by omega))
theorem rread_calls {w : World} {l : List UInt8} {m : Vq × Int} (hz : 0 < w.heap.size) (hm : readF l = m) :
    Calls Tryz.prog 29 #[.string (bs l)] w fun e w' => ∃ r, e = .returned (.tuple #[r, .int .i64 m.2]) ∧ VO w.heap.size w' r m.1 ∧ Ext w w' := by
  by_cases hl : 20000 < l.length
  · have : m = (zeroV, 3) := by rw [← hm, readF, if_pos hl]
    subst this
    exact rread_long hl
  · cases hn : nestF l with
    | none =>
      have : m = (zeroV, 5) := by rw [← hm]; exact rread_none hl hn
      subst this
      exact rread_nest (by omega) hn
    | some ds => exact rread_main hz (by omega) hn hm
end Go.Proofs.YtcbaipnphepbeaaGreatDoor
