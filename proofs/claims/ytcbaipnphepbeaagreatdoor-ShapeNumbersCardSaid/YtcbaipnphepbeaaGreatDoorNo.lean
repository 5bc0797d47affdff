/- Contracts of shape: reader.take of an array: the walk. Contracts of shape: reader.take; slices.Contains of strings; the laws of readW. Contracts of shape: Read. Contracts of shape: Read of words. -/
import Derived.Test.YtcbaipnphepbeaaGreatDoorNn
namespace Go.Proofs.YtcbaipnphepbeaaGreatDoor
open Go.RowKit
attribute [local go_sem ↓] Go.wp_at_zero Go.wp_at_succ

/-- What the last append of take needs. -/
structure Ends (W : World) (rb : Nat) (r1 : List UInt8) (n : Nat) (x : Value) (dims : List Int) : Prop where
  on : SO W.heap.size 3 1 IntC ((W.setCell ⟨rb, 0, none⟩ (.string (bs r1))).alloc (.cells #[.int .i64 (n : Int)] 3)) (.slice (some ⟨W.heap.size, 0, none⟩) 1 1) [(n : Int)]
  sn : SV 1 IntC ((W.setCell ⟨rb, 0, none⟩ (.string (bs r1))).alloc (.cells #[.int .i64 (n : Int)] 3)) x dims
  bn : W.heap.size ≤ ((W.setCell ⟨rb, 0, none⟩ (.string (bs r1))).alloc (.cells #[.int .i64 (n : Int)] 3)).heap.size
  b0 : (W.setCell ⟨rb, 0, none⟩ (.string (bs r1))).heap.size ≤ W.heap.size
  ln : [(n : Int)].length + dims.length ≤ 1073741824
theorem Ends.mk' {W : World} {rb : Nat} {r1 : List UInt8} {n b : Nat} {x : Value} {dims : List Int} (h : SO b 3 1 IntC W x dims) (hb : rb < b) (hd : dims.length ≤ 3) : Ends W rb r1 n x dims where
  on := by
    have := SO.lit (e := 3) (k := 1) (R := IntC) (W.setCell ⟨rb, 0, none⟩ (.string (bs r1))) [.int .i64 (n : Int)] [(n : Int)] (by simp) (Rows.one rfl rfl)
    rw [show (W.setCell ⟨rb, 0, none⟩ (.string (bs r1))).heap.size = W.heap.size from by simp [World.setCell]] at this
    exact this
  sn := ((h.set (p := ⟨rb, 0, none⟩) hb _ (fun _ _ h => h)).ext IntC.ext ((Ext.refl _).alloc _)).sv
  bn := by simp [World.setCell]
  b0 := by simp [World.setCell]
  ln := by simp; omega
theorem take_end {base rb n : Nat} {w W w5 : World} {v v2 x1 : Value} {ws nw nw2 : List (List UInt8)} {dims2 : List Int} {r1 : List UInt8} {s : ByteArray} (hF : FR base rb v v2 w W) (hb : RBox W rb s v2) (hr : Rdr base W rb v2 (ws ++ nw ++ nw2)) (hE : Ext (W.setCell ⟨rb, 0, none⟩ (.string (bs r1))) w5) (ho : SO W.heap.size 3 1 IntC w5 x1 ([(n : Int)] ++ dims2)) :
    TakeP base rb w v ws (some ((n : Int) :: dims2, r1, nw ++ nw2)) (.returned (.tuple #[x1, .bool true])) w5 := by
  have hl : base ≤ (W.setCell ⟨rb, 0, none⟩ (.string (bs r1))).heap.size := by
    have := hr.low; have := hr.lt; simp [World.setCell]; omega
  refine TakeP.ok (ho.mono hF.below.size) (RBox.ext hE (hb.put0 (bs r1))) ?_ ((hF.trans (FR.set hr.low 0 _)).trans (FR.of_ext hl hE))
  rw [← List.append_assoc]
  exact (hr.set 0 _).ext hE
/-- The state of take's loop. -/
theorem take_round {base rb : Nat} {w W : World} {v v2 : Value} {ws nw nw2 : List (List UInt8)} {r1 : List UInt8} (hF : FR base rb v v2 w W) (hr : Rdr base W rb v2 (ws ++ nw ++ nw2)) :
    Rdr base (W.setCell ⟨rb, 0, none⟩ (.string (bs r1))) rb v2 (ws ++ (nw ++ nw2)) ∧ FR base rb v v2 w (W.setCell ⟨rb, 0, none⟩ (.string (bs r1))) := by
  refine ⟨?_, hF.trans (FR.set hr.low 0 _)⟩
  rw [← List.append_assoc]
  exact hr.set 0 _
set_option maxRecDepth 10000 in
set_option maxHeartbeats 4000000 in
theorem take_array {P : List UInt8 → Prop} (hI : IA P) {m : Nat} {deep : Int} (hd0 : 0 ≤ deep) (hd3 : deep < 3) (hm : m ≤ 3) {rb : Nat}
    (hIH : ∀ (base : Nat) (w : World) (v : Value) (ws : List (List UInt8)) (l : List UInt8), RBox w rb (bs l) v → Rdr base w rb v ws → P l → l.length ≤ 20000 → ws.length + 8 ^ m < 1073741824 →
      Calls Tryz.prog 75 #[.pointer (some ⟨rb, 0, none⟩), .int .i64 (deep + 1)] w (TakeP base rb w v ws (takeF m l)))
    {base : Nat} {w : World} {v : Value} {ws : List (List UInt8)} {l : List UInt8} (hb : RBox w rb (bs (123 :: l)) v) (hr : Rdr base w rb v ws) (hP : P l) (hl : l.length ≤ 20000) (hws : ws.length + 8 ^ (m + 1) < 1073741824) {res : Option (List Int × List UInt8 × List (List UInt8))} (hres : takeL (takeF m) 8 1 [] l [] = res) :
    Calls Tryz.prog 75 #[.pointer (some ⟨rb, 0, none⟩), .int .i64 deep] w (TakeP base rb w v ws res) := by
  have HC0 := Aside.mk (cut1_yes (w := w) (c := 123) (t := l))
  have HIH := Aside.mk hIH
  have HW := Aside.mk hws
  have HBR := hr.low
  have HLT2 := Aside.mk hr.lt
  obtain ⟨A, cv, rfl, _⟩ := hr.row.sv.form
  obtain ⟨nv, hnv⟩ : ∃ n, (ws.map bs).length = n := ⟨_, rfl⟩
  rw [hnv] at hb hr ⊢
  have HINIT : Aside (Rdr base (w.setCell ⟨rb, 0, none⟩ (.string (bs l))) rb (.slice A nv cv) (ws ++ []) ∧ FR base rb (.slice A nv cv) (.slice A nv cv) w (w.setCell ⟨rb, 0, none⟩ (.string (bs l))) ∧ P l ∧ l.length ≤ 20000 ∧ takeL (takeF m) (9 - 1) 1 [] l [] = res ∧ ([] : List (List UInt8)).length ≤ (1 - 1) * 8 ^ m) := ⟨by rw [List.append_nil]; exact hr.set 0 _, FR.set hr.low 0 _, hP, hl, hres, by simp⟩
  have hb0 := hb.put0 (bs l)
  have hdk : (deep == 3) = false := beq_eq_false_iff_ne.2 (by omega)
  clear hIH hr hP hl hws hres hnv
  go_enter Tryz.func75, Tryz.ntmps75
  go_wp2_with (go_at_call 78; (with_reducible refine HC0.out.mono ?_); rintro e w' ⟨rfl, rfl⟩)
  go_loopw [9, 10] (fun f i wr => ∃ (n : Nat) (dims : List Int) (l2 : List UInt8) (nw : List (List UInt8)) (B : Option Addr) (nb cb : Nat) (D : Option Addr) (d c : Nat), 1 ≤ n ∧ n ≤ 9 ∧ i = .int .i64 (n : Int) ∧ f = .slice D d c ∧ RBox wr rb (bs l2) (.slice B nb cb) ∧
      Aside (SO w.heap.size 3 1 IntC wr (.slice D d c) dims ∧ dims.length = d) ∧ Aside (Rdr base wr rb (.slice B nb cb) (ws ++ nw) ∧ FR base rb (.slice A nv cv) (.slice B nb cb) w wr ∧ P l2 ∧ l2.length ≤ 20000 ∧ takeL (takeF m) (9 - n) n dims l2 nw = res ∧ nw.length ≤ (n - 1) * 8 ^ m)) (fun _ i _ => 9 - (intOf i).toNat)
  case atStart => exact ⟨1, [], l, [], A, nv, cv, none, 0, 0, by omega, by omega, rfl, rfl, hb0, ⟨SO.nil, rfl⟩, HINIT⟩
  case round =>
    clear hb hb0 HINIT HC0
    obtain ⟨n, dims, l2, nw, B, nb, cb, D, d, c, hn1, hn9, rfl, rfl, hb, HS, HV⟩ := hrel
    by_cases hlt : n ≤ 8
    · have HSO := Aside.mk HS.out.1
      have HR := Aside.mk HV.out.1
      have HFR := Aside.mk HV.out.2.1
      have hrl := round_len HV.out.2.2.2.2.2 hn1 hlt
      have HT := Aside.mk (HIH.out base wr _ (ws ++ nw) l2 hb HR.out HV.out.2.2.1 HV.out.2.2.2.1 (by rw [List.length_append]; have := HW.out; rw [Nat.pow_succ] at this; omega))
      have h98 : 9 - n = (8 - n) + 1 := by omega
      cases hfs : takeF m l2 with
      | none =>
        rw [hfs] at HT
        have HRES : Aside (res = none) := ⟨by rw [← HV.out.2.2.2.2.1, h98]; exact takeL_none hfs⟩
        clear hfs hrl h98
        go_wp2_with fail
        ((with_reducible refine HT.out.mono ?_); rintro e w2 hT; obtain ⟨rfl, hz⟩ := hT.none'; have HZ := Aside.mk (HFR.out.below.trans hz); clear hT hz)
        go_wp2_with fail
        go_ret2
        rw [HRES.out]
        exact TakeP.bad HZ.out
      | some x =>
        obtain ⟨dims2, r0, nw2⟩ := x
        rw [hfs] at HT
        have HDM : Aside (dims2.length ≤ 3) := ⟨Nat.le_trans (takeF_dims _ _ _ _ _ hfs) hm⟩
        by_cases hc : 1 < n ∧ dims2 ≠ dims
        · have HRES : Aside (res = none) := ⟨by rw [← HV.out.2.2.2.2.1, h98]; exact takeL_ne hfs hc.1 hc.2⟩
          have HEQ : Aside (decide (dims2 = dims) = false) := ⟨decide_eq_false hc.2⟩
          have hn2 := hc.1
          clear hfs hrl h98 hc
          go_wp2_with fail
          ((with_reducible refine HT.out.mono ?_); rintro e w2 hT; obtain ⟨A2, d2, c2, B2, n2, k2, rfl, hd2, hx, hbz, hrz, hf⟩ := hT.form; have HD2 := Aside.mk hd2; have HX := Aside.mk hx; have HRZ := Aside.mk hrz; have HF2 := Aside.mk (HFR.out.trans hf); have HDS := Aside.mk (HSO.out.fr HLT2.out HR.out (by decide) hf (fun _ _ h => h)); clear hT hx hrz hf hd2)
          go_wp2_with (first | (go_at_call 84; (with_reducible refine (eqInts HX.out.sv.iv HDS.out.sv.iv HEQ.out).mono ?_); rintro e w3 ⟨rfl, he⟩; have HZ := Aside.mk (HF2.out.below.trans (Below.mono he (Nat.le_trans HRZ.out.low (Nat.le_of_lt HRZ.out.lt)))); clear he))
          go_ret2
          rw [HRES.out]
          exact TakeP.bad HZ.out
        · have hlen := takeF_len _ _ _ _ _ hfs
          have HNL : Aside ((nw ++ nw2).length ≤ (n + 1 - 1) * 8 ^ m) := ⟨by rw [List.length_append, Nat.add_sub_cancel]; omega⟩
          have HP0 : Aside (P r0 ∧ r0.length ≤ 20000) := ⟨by
            obtain ⟨i, rfl⟩ := takeF_drop _ _ _ _ _ hfs
            exact ⟨hI.drop _ _ HV.out.2.2.1, Nat.le_trans hlen.1 HV.out.2.2.2.1⟩⟩
          clear hlen hrl
          by_cases h1 : r0.head? = some 125
          · obtain ⟨r1, rfl⟩ : ∃ t, r0 = 125 :: t := by
              cases r0 with
              | nil => cases h1
              | cons c t => injection h1 with h1; subst h1; exact ⟨t, rfl⟩
            have HRES : Aside (res = some ((n : Int) :: dims2, r1, nw ++ nw2)) := ⟨by rw [← HV.out.2.2.2.2.1, h98]; exact takeL_end hfs hc⟩
            have HCA : Aside (∀ w, Calls Tryz.prog 78 #[.string (bs (125 :: r1)), .string ⟨#[125]⟩] w fun e w' => e = .returned (.tuple #[.string (bs r1), .bool true]) ∧ w = w') := ⟨fun w => cut1_yes⟩
            by_cases hn2 : 1 < n
            · have HEQ : Aside (decide (dims2 = dims) = true) := ⟨decide_eq_true (Classical.not_not.1 fun h => hc ⟨hn2, h⟩)⟩
              clear hfs h98 hc h1
              go_wp2_with fail
              ((with_reducible refine HT.out.mono ?_); rintro e w2 hT; obtain ⟨A2, d2, c2, B2, n2, k2, rfl, hd2, hx, hbz, hrz, hf⟩ := hT.form; have HD2 := Aside.mk hd2; have HX := Aside.mk hx; have HRZ := Aside.mk hrz; have HF2 := Aside.mk (HFR.out.trans hf); have HDS := Aside.mk (HSO.out.fr HLT2.out HR.out (by decide) hf (fun _ _ h => h)); clear hT hx hrz hf hd2)
              go_wp2_with (first | (go_at_call 84; (with_reducible refine (eqInts HX.out.sv.iv HDS.out.sv.iv HEQ.out).mono ?_); rintro e w3 ⟨rfl, he⟩; have hbz3 := RBox.ext he hbz; have HRZ3 := Aside.mk (HRZ.out.ext he); have HF3 := Aside.mk (HF2.out.trans (FR.of_ext (Nat.le_trans HRZ.out.low (Nat.le_of_lt HRZ.out.lt)) he)); have HX3 := Aside.mk (HX.out.ext IntC.ext he); clear he) | (go_at_call 78; (with_reducible refine (HCA.out _).mono ?_); rintro e w' ⟨rfl, rfl⟩; have HEN := Ends.mk' (rb := rb) (r1 := r1) (n := n) HX3.out HR.out.lt HDM.out) | (at_builtin; refine append_so (R := IntC) w3.heap.size elemInt rfl _ _ rfl _ _ [(n : Int)] dims2 HEN.on HEN.sn IntC.one (fun _ _ _ _ h => h) rfl rfl HEN.bn HEN.ln ?_; intro v1 w5 ho hg; have HO5 := Aside.mk ho; have HE5 := Aside.mk (HEN.on.ext_grown ((Ext.refl _).alloc _) HEN.b0 hg); clear ho hg))
              go_ret2
              rw [HRES.out]
              exact take_end HF3.out hbz3 HRZ3.out HE5.out HO5.out
            · have hn3 : n ≤ 1 := by omega
              clear hfs h98 hc h1 hn2
              go_wp2_with fail
              ((with_reducible refine HT.out.mono ?_); rintro e w2 hT; obtain ⟨A2, d2, c2, B2, n2, k2, rfl, hd2, hx, hbz, hrz, hf⟩ := hT.form; have HD2 := Aside.mk hd2; have HX := Aside.mk hx; have HRZ := Aside.mk hrz; have HF2 := Aside.mk (HFR.out.trans hf); have HDS := Aside.mk (HSO.out.fr HLT2.out HR.out (by decide) hf (fun _ _ h => h)); clear hT hx hrz hf hd2)
              go_wp2_with (first | (go_at_call 78; (with_reducible refine (HCA.out _).mono ?_); rintro e w' ⟨rfl, rfl⟩; have HEN := Ends.mk' (rb := rb) (r1 := r1) (n := n) HX.out HR.out.lt HDM.out) | (at_builtin; refine append_so (R := IntC) w2.heap.size elemInt rfl _ _ rfl _ _ [(n : Int)] dims2 HEN.on HEN.sn IntC.one (fun _ _ _ _ h => h) rfl rfl HEN.bn HEN.ln ?_; intro v1 w5 ho hg; have HO5 := Aside.mk ho; have HE5 := Aside.mk (HEN.on.ext_grown ((Ext.refl _).alloc _) HEN.b0 hg); clear ho hg))
              go_ret2
              rw [HRES.out]
              exact take_end HF2.out hbz HRZ.out HE5.out HO5.out
          · have HCA : Aside (∀ w, Calls Tryz.prog 78 #[.string (bs r0), .string ⟨#[125]⟩] w fun e w' => e = .returned (.tuple #[.string (bs r0), .bool false]) ∧ w = w') := ⟨fun w => cut1_no h1⟩
            by_cases h2 : ∃ r1, r0 = 44 :: 32 :: r1
            · obtain ⟨r1, rfl⟩ := h2
              have HNXT : Aside (takeL (takeF m) (9 - (n + 1)) (n + 1) dims2 r1 (nw ++ nw2) = res) := ⟨by rw [← HV.out.2.2.2.2.1, h98, takeL_next hfs hc, show 9 - (n + 1) = 8 - n from by omega]⟩
              have HP1 : Aside (P r1 ∧ r1.length ≤ 20000) := ⟨hI.drop _ 2 HP0.out.1, by have := HP0.out.2; simp at this; omega⟩
              have HCB : Aside (∀ w, Calls Tryz.prog 78 #[.string (bs (44 :: 32 :: r1)), .string ⟨#[44, 32]⟩] w fun e w' => e = .returned (.tuple #[.string (bs r1), .bool true]) ∧ w = w') := ⟨fun w => cut2_yes⟩
              by_cases hn2 : 1 < n
              · have HEQ : Aside (decide (dims2 = dims) = true) := ⟨decide_eq_true (Classical.not_not.1 fun h => hc ⟨hn2, h⟩)⟩
                clear hfs h98 hc h1
                go_wp2_with fail
                ((with_reducible refine HT.out.mono ?_); rintro e w2 hT; obtain ⟨A2, d2, c2, B2, n2, k2, rfl, hd2, hx, hbz, hrz, hf⟩ := hT.form; have HD2 := Aside.mk hd2; have HX := Aside.mk hx; have HRZ := Aside.mk hrz; have HF2 := Aside.mk (HFR.out.trans hf); have HDS := Aside.mk (HSO.out.fr HLT2.out HR.out (by decide) hf (fun _ _ h => h)); clear hT hx hrz hf hd2)
                go_wp2_with (first | (go_at_call 84; (with_reducible refine (eqInts HX.out.sv.iv HDS.out.sv.iv HEQ.out).mono ?_); rintro e w3 ⟨rfl, he⟩; have hbz3 := RBox.ext he hbz; have HRZ3 := Aside.mk (HRZ.out.ext he); have HF3 := Aside.mk (HF2.out.trans (FR.of_ext (Nat.le_trans HRZ.out.low (Nat.le_of_lt HRZ.out.lt)) he)); have HX3 := Aside.mk (HX.out.ext IntC.ext he); clear he) | (go_at_call 78; (with_reducible refine (HCA.out _).mono ?_); rintro e w' ⟨rfl, rfl⟩) | (go_at_call 78; (with_reducible refine (HCB.out _).mono ?_); rintro e w' ⟨rfl, rfl⟩))
                go_roundw
                case rel =>
                  exact ⟨n + 1, dims2, r1, nw ++ nw2, B2, n2, k2, A2, d2, c2, by omega, by omega, (show Value.int .i64 ((n : Int) + 1) = .int .i64 ((n + 1 : Nat) : Int) from by go_num), rfl, hbz3.put0 _, ⟨(HX3.out.mono HFR.out.below.size).set (p := ⟨rb, 0, none⟩) HLT2.out _ (fun _ _ h => h), HD2.out⟩, ⟨(take_round HF3.out HRZ3.out).1, (take_round HF3.out HRZ3.out).2, HP1.out.1, HP1.out.2, HNXT.out, HNL.out⟩⟩
                case measure => simp [intOf]; omega
              · have hn3 : n ≤ 1 := by omega
                clear hfs h98 hc h1 hn2
                go_wp2_with fail
                ((with_reducible refine HT.out.mono ?_); rintro e w2 hT; obtain ⟨A2, d2, c2, B2, n2, k2, rfl, hd2, hx, hbz, hrz, hf⟩ := hT.form; have HD2 := Aside.mk hd2; have HX := Aside.mk hx; have HRZ := Aside.mk hrz; have HF2 := Aside.mk (HFR.out.trans hf); have HDS := Aside.mk (HSO.out.fr HLT2.out HR.out (by decide) hf (fun _ _ h => h)); clear hT hx hrz hf hd2)
                go_wp2_with (first | (go_at_call 78; (with_reducible refine (HCA.out _).mono ?_); rintro e w' ⟨rfl, rfl⟩) | (go_at_call 78; (with_reducible refine (HCB.out _).mono ?_); rintro e w' ⟨rfl, rfl⟩))
                go_roundw
                case rel =>
                  exact ⟨n + 1, dims2, r1, nw ++ nw2, B2, n2, k2, A2, d2, c2, by omega, by omega, (show Value.int .i64 ((n : Int) + 1) = .int .i64 ((n + 1 : Nat) : Int) from by go_num), rfl, hbz.put0 _, ⟨(HX.out.mono HFR.out.below.size).set (p := ⟨rb, 0, none⟩) HLT2.out _ (fun _ _ h => h), HD2.out⟩, ⟨(take_round HF2.out HRZ.out).1, (take_round HF2.out HRZ.out).2, HP1.out.1, HP1.out.2, HNXT.out, HNL.out⟩⟩
                case measure => simp [intOf]; omega
            · have HRES : Aside (res = none) := ⟨by rw [← HV.out.2.2.2.2.1, h98]; exact takeL_bad hfs h1 (fun t e => h2 ⟨t, e⟩)⟩
              have HCB : Aside (∀ w, Calls Tryz.prog 78 #[.string (bs r0), .string ⟨#[44, 32]⟩] w fun e w' => e = .returned (.tuple #[.string (bs r0), .bool false]) ∧ w = w') := ⟨fun w => cut2_no (fun t e => h2 ⟨t, e⟩)⟩
              by_cases hn2 : 1 < n
              · have HEQ : Aside (decide (dims2 = dims) = true) := ⟨decide_eq_true (Classical.not_not.1 fun h => hc ⟨hn2, h⟩)⟩
                clear hfs h98 hc h1 h2
                go_wp2_with fail
                ((with_reducible refine HT.out.mono ?_); rintro e w2 hT; obtain ⟨A2, d2, c2, B2, n2, k2, rfl, hd2, hx, hbz, hrz, hf⟩ := hT.form; have HD2 := Aside.mk hd2; have HX := Aside.mk hx; have HRZ := Aside.mk hrz; have HF2 := Aside.mk (HFR.out.trans hf); have HDS := Aside.mk (HSO.out.fr HLT2.out HR.out (by decide) hf (fun _ _ h => h)); clear hT hx hrz hf hd2)
                go_wp2_with (first | (go_at_call 84; (with_reducible refine (eqInts HX.out.sv.iv HDS.out.sv.iv HEQ.out).mono ?_); rintro e w3 ⟨rfl, he⟩; have hbz3 := RBox.ext he hbz; have HRZ3 := Aside.mk (HRZ.out.ext he); have HF3 := Aside.mk (HF2.out.trans (FR.of_ext (Nat.le_trans HRZ.out.low (Nat.le_of_lt HRZ.out.lt)) he)); have HX3 := Aside.mk (HX.out.ext IntC.ext he); clear he) | (go_at_call 78; (with_reducible refine (HCA.out _).mono ?_); rintro e w' ⟨rfl, rfl⟩) | (go_at_call 78; (with_reducible refine (HCB.out _).mono ?_); rintro e w' ⟨rfl, rfl⟩))
                go_ret2
                rw [HRES.out]
                exact TakeP.bad HF3.out.below
              · have hn3 : n ≤ 1 := by omega
                clear hfs h98 hc h1 h2 hn2
                go_wp2_with fail
                ((with_reducible refine HT.out.mono ?_); rintro e w2 hT; obtain ⟨A2, d2, c2, B2, n2, k2, rfl, hd2, hx, hbz, hrz, hf⟩ := hT.form; have HD2 := Aside.mk hd2; have HX := Aside.mk hx; have HRZ := Aside.mk hrz; have HF2 := Aside.mk (HFR.out.trans hf); have HDS := Aside.mk (HSO.out.fr HLT2.out HR.out (by decide) hf (fun _ _ h => h)); clear hT hx hrz hf hd2)
                go_wp2_with (first | (go_at_call 78; (with_reducible refine (HCA.out _).mono ?_); rintro e w' ⟨rfl, rfl⟩) | (go_at_call 78; (with_reducible refine (HCB.out _).mono ?_); rintro e w' ⟨rfl, rfl⟩))
                go_ret2
                rw [HRES.out]
                exact TakeP.bad HF2.out.below
    · have HRES : Aside (res = none) := ⟨by rw [← HV.out.2.2.2.2.1, show 9 - n = 0 from by omega]; rfl⟩
      have HZ := Aside.mk HV.out.2.1.below
      go_wp2
      go_ret2
      rw [HRES.out]
      exact TakeP.bad HZ.out
end Go.Proofs.YtcbaipnphepbeaaGreatDoor

namespace Go.Proofs.YtcbaipnphepbeaaGreatDoor
open Go.RowKit

theorem tk_calls {P : List UInt8 → Prop} (hI : IA P) {rb : Nat} : ∀ (m : Nat) (deep : Int), deep + m = 3 → 0 ≤ deep → ∀ (base : Nat) (w : World) (v : Value) (ws : List (List UInt8)) (l : List UInt8), RBox w rb (bs l) v → Rdr base w rb v ws → P l → l.length ≤ 20000 → ws.length + 8 ^ m < 1073741824 →
      Calls Tryz.prog 75 #[.pointer (some ⟨rb, 0, none⟩), .int .i64 deep] w (TakeP base rb w v ws (takeF m l))
  | 0, deep, hd, h0, base, w, v, ws, l, hb, hr, hP, hl, hws => by
    obtain rfl : deep = 3 := by simpa using hd
    cases l with
    | nil => exact take_word hI hb hr hP hl (by omega) (by simp)
    | cons c t =>
      by_cases hc : c = 123
      · subst hc; exact take_deep hb
      · have := take_word hI (deep := 3) hb hr hP hl (by omega) (by simpa using hc)
        unfold takeF
        rw [if_neg (by simpa using hc)]
        exact this
  | m + 1, deep, hd, h0, base, w, v, ws, l, hb, hr, hP, hl, hws => by
    cases l with
    | nil => exact take_word hI hb hr hP hl (Nat.lt_of_le_of_lt (Nat.le_add_right _ _) hws) (by simp)
    | cons c t =>
      by_cases hc : c = 123
      · subst hc
        unfold takeF
        rw [if_pos (show (123 :: t).head? = some 123 from rfl)]
        refine take_array hI h0 (by omega) (by omega) (fun base w v ws l => tk_calls hI m (deep + 1) (by omega) (by omega) base w v ws l) hb hr (hI.drop _ 1 hP) (by simp at hl; omega) hws rfl
      · have := take_word hI (deep := deep) hb hr hP hl (Nat.lt_of_le_of_lt (Nat.le_add_right _ _) hws) (by simpa using hc)
        unfold takeF
        rw [if_neg (by simpa using hc)]
        exact this
theorem contains_str {w : World} {v : Value} {ws : List (List UInt8)} {x : List UInt8} {b : Bool} (h : SV 1 StrC w v (ws.map bs)) (hb : decide (x ∈ ws) = b) :
    Calls Tryz.prog 76 #[v, .string (bs x)] w fun e w' => e = .returned (.bool b) ∧ w = w' := by
  obtain ⟨A, c, rfl, hc, hl⟩ := h.form
  have hs := h.spot
  have hbb : ∀ y, bs y = bs x ↔ y = x := fun y => ⟨fun e => by have := congrArg (fun b : ByteArray => b.data.toList) e; simpa [bs] using this, fun e => by rw [e]⟩
  by_cases h0 : ws = []
  · subst h0
    refine (Tryz.slices_Contains_string_empty A c (bs x) w).mono ?_
    rintro e w' ⟨rfl, rfl⟩
    exact ⟨by rw [← hb]; rfl, rfl⟩
  · obtain ⟨y, t, rfl⟩ : ∃ y t, ws = y :: t := by
      cases ws with
      | nil => exact absurd rfl h0
      | cons y t => exact ⟨y, t, rfl⟩
    obtain ⟨ad, cs, rfl, _⟩ := h.at' (by decide) 0 (a := bs y) rfl
    have hsp := hs ad rfl
    obtain ⟨b0, o, s⟩ := ad
    obtain rfl : s = none := hsp
    generalize y :: t = l at *
    refine (Tryz.slices_Contains_string b0 o (l.map bs).length c (l.map bs) (bs x) w (Nat.le_refl _) (by omega) ?_).mono ?_
    · intro j hj
      obtain ⟨ad', cs', e, h1, h2, h3⟩ := h.at' (by decide) j (List.getElem?_eq_getElem hj)
      injection e with e
      subst e
      obtain rfl : cs' = [.string ((l.map bs)[j])] := h2
      have := h3 0 _ rfl
      rw [(addr_of rfl _).2] at this
      rw [List.getD_eq_getElem?_getD, List.getElem?_eq_getElem hj, Option.getD_some]
      simpa using this
    · rintro e w' ⟨rfl, rfl⟩
      refine ⟨?_, rfl⟩
      rw [List.take_length, ← hb]
      congr 2
      rw [Bool.eq_iff_iff, Lib.containsS_iff, decide_eq_true_iff, List.mem_map]
      exact ⟨fun ⟨y, hy, e⟩ => (hbb y).1 e ▸ hy, fun h => ⟨x, h, rfl⟩⟩
theorem readW_snoc (k : Int) (w : List UInt8) : ∀ ws, readW k (ws ++ [w]) = match readW k ws with
    | none => none
    | some (a, b) => match stepW k w with
      | none => none
      | some (c, d) => some (a ++ c, b ++ d)
  | [] => by
    show readW k [w] = _
    unfold readW
    cases stepW k w with
    | none => rfl
    | some x => obtain ⟨c, d⟩ := x; simp [readW]
  | y :: ws => by
    rw [List.cons_append]
    unfold readW
    cases stepW k y with
    | none => rfl
    | some x =>
      obtain ⟨c, d⟩ := x
      simp only
      rw [readW_snoc k w ws]
      cases readW k ws with
      | none => rfl
      | some x =>
        obtain ⟨a, b⟩ := x
        simp only
        cases stepW k w with
        | none => rfl
        | some x => obtain ⟨c', d'⟩ := x; simp
theorem readW_bad (k : Int) : ∀ (ws : List (List UInt8)) (j : Nat) (w : List UInt8), ws[j]? = some w → stepW k w = none → readW k ws = none
  | [], j, w, h, _ => by simp at h
  | y :: ws, 0, w, h, hs => by
    simp at h; subst h
    unfold readW; rw [hs]
  | y :: ws, j + 1, w, h, hs => by
    unfold readW
    cases stepW k y with
    | none => rfl
    | some x =>
      obtain ⟨c, d⟩ := x
      simp only
      rw [readW_bad k ws j w (by simpa using h) hs]
end Go.Proofs.YtcbaipnphepbeaaGreatDoor

namespace Go.Proofs.YtcbaipnphepbeaaGreatDoor
open Go.RowKit
attribute [local go_sem ↓] Go.wp_at_zero Go.wp_at_succ

/-- A result of four cells. -/
abbrev R4 (w w' : World) : Prop :=
  Aside (Ext w w') ∧ (Fits w' ⟨w.heap.size, 0, none⟩ ∧ Fits w' ⟨w.heap.size, 1, none⟩ ∧ Fits w' ⟨w.heap.size, 2, none⟩ ∧ Fits w' ⟨w.heap.size, 3, none⟩)
theorem R4.below {w w1 w2 : World} (h : R4 w w1) (b : Below (w.heap.size + 1) w1 w2) : R4 w w2 := by
  obtain ⟨h0, h5, h6, h7, h8⟩ := h
  have hF : ∀ {j : Nat}, Fits w1 ⟨w.heap.size, j, none⟩ → Fits w2 ⟨w.heap.size, j, none⟩ := fun h => Fits.of ((Below.cell b (Nat.lt_succ_self _)).trans h.1) ((Below.frozen b (Nat.lt_succ_self _)).trans h.2)
  exact ⟨⟨Below.trans h0.out (Below.mono b (Nat.le_succ _))⟩, hF h5, hF h6, hF h7, hF h8⟩
theorem R4.lt {w w1 : World} (h : R4 w w1) : w.heap.size + 1 ≤ w1.heap.size := World.block_lt_of_cell? w1 ⟨w.heap.size, 0, none⟩ h.2.1.1
theorem R4.ext {w w1 w2 : World} (e : Ext w1 w2) (h : R4 w w1) : R4 w w2 := h.below (Below.mono e h.lt)
theorem R4.init (w : World) (z0 z1 z2 z3 : Value) (t : TypeId) : R4 w (w.alloc (.cells #[z0, z1, z2, z3] t)) :=
  ⟨⟨(Ext.refl w).alloc _⟩, fits_new (v := z0) (by simp) rfl, fits_new (v := z1) (by simp) rfl, fits_new (v := z2) (by simp) rfl, fits_new (v := z3) (by simp) rfl⟩
theorem R4.set {w w1 : World} (h : R4 w w1) {g : Nat} (hg : w.heap.size < g) (j : Nat) (v : Value) : R4 w (w1.setCell ⟨g, j, none⟩ v) := h.below (Below.setCell (Below.refl _ _) hg v)

set_option maxRecDepth 10000 in
set_option maxHeartbeats 2000000 in
theorem read_long {w : World} {l : List UInt8} (h : 20000 < l.length) :
    Calls Tryz.prog 25 #[.string (bs l)] w fun e w' => ∃ r, e = .returned (.tuple #[r, .int .i64 3]) ∧ VO w.heap.size w' r zeroV ∧ Ext w w' := by
  have hs : 20000 < (bs l).size := by rw [bs_size]; exact h
  have hr := R4.init w (.int .i64 0) (.slice none 0 0) (.slice none 0 0) (.slice none 0 0) 29
  clear h
  go_enter Tryz.func25, Tryz.ntmps25
  go_wp2_with fail
  refine bodyPost_ret (v := .tuple #[.agg #[.int .i64 0, .slice none 0 0, .slice none 0 0, .slice none 0 0], .int .i64 3]) (by simp [results, Tryz.results25, go_sem]) rfl ⟨_, rfl, VO.zero _ _, hr.1.out⟩
/-- What a call of take of a whole text leaves. -/
theorem take_whole {P : List UInt8 → Prop} (hI : IA P) {w : World} {l : List UInt8} (hP : P l) (hl : l.length ≤ 20000) :
    Calls Tryz.prog 75 #[.pointer (some ⟨w.heap.size + 1, 0, none⟩), .int .i64 0] ((w.alloc (.cells #[.int .i64 0, .slice none 0 0, .slice none 0 0, .slice none 0 0] 29)).alloc (.cells #[.string (bs l), .slice none 0 0] 102)) (TakeP (w.heap.size + 1) (w.heap.size + 1) ((w.alloc (.cells #[.int .i64 0, .slice none 0 0, .slice none 0 0, .slice none 0 0] 29)).alloc (.cells #[.string (bs l), .slice none 0 0] 102)) (.slice none 0 0) [] (takeF 3 l)) := by
  refine tk_calls hI 3 0 rfl (by decide) _ _ _ _ l ⟨cell_new (by simp) rfl, cell_new (by simp) rfl, by simp, by simp⟩ ⟨Nat.le_refl _, by simp, SO.nil, by intro h; cases h⟩ hP hl (by decide)
set_option maxRecDepth 10000 in
set_option maxHeartbeats 2000000 in
theorem read_none {P : List UInt8 → Prop} (hI : IA P) {w : World} {l : List UInt8} (hP : P l) (h : l.length ≤ 20000) (hn : takeF 3 l = none) :
    Calls Tryz.prog 25 #[.string (bs l)] w fun e w' => ∃ r, e = .returned (.tuple #[r, .int .i64 5]) ∧ VO w.heap.size w' r zeroV ∧ Ext w w' := by
  have hs : (bs l).size ≤ 20000 := by rw [bs_size]; exact h
  have hr := R4.ext ((Ext.refl _).alloc (.cells #[.string (bs l), .slice none 0 0] 102)) (R4.init w (.int .i64 0) (.slice none 0 0) (.slice none 0 0) (.slice none 0 0) 29)
  have HT := Aside.mk (take_whole hI (w := w) hP h)
  rw [hn] at HT
  clear h hn hP
  go_enter Tryz.func25, Tryz.ntmps25
  go_wp2_with (go_at_call 75; (with_reducible refine HT.out.mono ?_); rintro e w2 hT; obtain ⟨rfl, hz⟩ := hT.none'; have hr2 := hr.below hz; clear hT)
  refine bodyPost_ret (v := .tuple #[.agg #[.int .i64 0, .slice none 0 0, .slice none 0 0, .slice none 0 0], .int .i64 5]) (by simp [results, Tryz.results25, go_sem, hr2]) rfl ⟨_, rfl, VO.zero _ _, ext_set4 hr2.1.out (Nat.le_refl _) _ _ _ _⟩
set_option maxRecDepth 10000 in
set_option maxHeartbeats 2000000 in
theorem read_more {P : List UInt8 → Prop} (hI : IA P) {w : World} {l r : List UInt8} {dims : List Int} {ws : List (List UInt8)} (hP : P l) (h : l.length ≤ 20000) (hn : takeF 3 l = some (dims, r, ws)) (hr0 : r ≠ []) :
    Calls Tryz.prog 25 #[.string (bs l)] w fun e w' => ∃ r, e = .returned (.tuple #[r, .int .i64 5]) ∧ VO w.heap.size w' r zeroV ∧ Ext w w' := by
  have hs : (bs l).size ≤ 20000 := by rw [bs_size]; exact h
  have hr := R4.ext ((Ext.refl _).alloc (.cells #[.string (bs l), .slice none 0 0] 102)) (R4.init w (.int .i64 0) (.slice none 0 0) (.slice none 0 0) (.slice none 0 0) 29)
  have HT := Aside.mk (take_whole hI (w := w) hP h)
  rw [hn] at HT
  have he : (!(bs r).toList.isEmpty) = true := by rw [Lib.toList_data, bs_data]; cases r with
    | nil => exact absurd rfl hr0
    | cons c t => rfl
  clear h hn hP hr0
  go_enter Tryz.func25, Tryz.ntmps25
  go_wp2_with (go_at_call 75; (with_reducible refine HT.out.mono ?_); rintro e w2 hT; obtain ⟨A, d, c, B, n, k, rfl, hd, hx, hbz, hrz, hf⟩ := hT.form; have hr2 := hr.below hf.below; clear hT hf)
  refine bodyPost_ret (v := .tuple #[.agg #[.int .i64 0, .slice none 0 0, .slice none 0 0, .slice none 0 0], .int .i64 5]) (by simp [results, Tryz.results25, go_sem, hr2]) rfl ⟨_, rfl, VO.zero _ _, ext_set4 hr2.1.out (Nat.le_refl _) _ _ _ _⟩
end Go.Proofs.YtcbaipnphepbeaaGreatDoor

namespace Go.Proofs.YtcbaipnphepbeaaGreatDoor
open Go.RowKit
attribute [local go_sem ↓] Go.wp_at_zero Go.wp_at_succ

/-- What the rows hold. -/
structure RdRows (n0 g : Nat) (dims : List Int) (ws : List (List UInt8)) (xd xw xn xb : Value) (ns : List Rq) (bts : List Bq) (W : World) : Prop where
  lo : n0 + 2 ≤ g
  lt : g < W.heap.size
  dims : SO (n0 + 2) 3 1 IntC W xd dims
  dne : xd.ownBlock ≠ some g
  words : SO (n0 + 1) 9 1 StrC W xw (ws.map bs)
  wne : xw.ownBlock ≠ some g
  nums : SO (g + 1) 83 4 (RatO (g + 1)) W xn ns
  bits : SO (g + 1) 46 2 BitC W xb bts
namespace RdRows
variable {n0 g : Nat} {dims : List Int} {ws : List (List UInt8)} {xd xw xn xb : Value} {ns : List Rq} {bts : List Bq} {W W' : World}
theorem ext (h : RdRows n0 g dims ws xd xw xn xb ns bts W) (e : Ext W W') : RdRows n0 g dims ws xd xw xn xb ns bts W' :=
  ⟨h.lo, Nat.lt_of_lt_of_le h.lt e.size, h.dims.ext IntC.ext e, h.dne, h.words.ext StrC.ext e, h.wne, h.nums.ext (RatO.ext _) e, h.bits.ext BitC.ext e⟩
theorem set (h : RdRows n0 g dims ws xd xw xn xb ns bts W) (j : Nat) (u : Value) : RdRows n0 g dims ws xd xw xn xb ns bts (W.setCell ⟨g, j, none⟩ u) :=
  ⟨h.lo, by have := h.lt; simpa [World.setCell] using this, h.dims.setNe (p := ⟨g, j, none⟩) h.dne u (fun _ _ h => h), h.dne, h.words.setNe (p := ⟨g, j, none⟩) h.wne u (fun _ _ h => h), h.wne,
    h.nums.set (p := ⟨g, j, none⟩) (Nat.lt_succ_self _) u (RatO.set (p := ⟨g, j, none⟩) (Nat.lt_succ_self _) u), h.bits.set (p := ⟨g, j, none⟩) (Nat.lt_succ_self _) u (fun _ _ h => h)⟩
/-- Behind an append to the numbers. -/
theorem num (h : RdRows n0 g dims ws xd xw xn xb ns bts W) {x1 : Value} {ns1 : List Rq} (hg : W.grownBy W' xn.ownBlock) (h1 : SO (g + 1) 83 4 (RatO (g + 1)) W' x1 ns1) : RdRows n0 g dims ws xd xw x1 xb ns1 bts W' :=
  ⟨h.lo, Nat.lt_of_lt_of_le h.lt hg.size, h.dims.other h.nums (by decide) hg (fun _ _ h => h), h.dne, h.words.other h.nums (by decide) hg (fun _ _ h => h), h.wne, h1, h.bits.other h.nums (by decide) hg (fun _ _ h => h)⟩
theorem bit (h : RdRows n0 g dims ws xd xw xn xb ns bts W) {x1 : Value} {bts1 : List Bq} (hg : W.grownBy W' xb.ownBlock) (h1 : SO (g + 1) 46 2 BitC W' x1 bts1) : RdRows n0 g dims ws xd xw xn x1 ns bts1 W' :=
  ⟨h.lo, Nat.lt_of_lt_of_le h.lt hg.size, h.dims.other h.bits (by decide) hg (fun _ _ h => h), h.dne, h.words.other h.bits (by decide) hg (fun _ _ h => h), h.wne, h.nums.other h.bits (by decide) hg (RatO.grown h.bits (by decide) hg), h1⟩
end RdRows
theorem contains_yes {w : World} {v : Value} {ws : List (List UInt8)} {b : Bool} (h : SV 1 StrC w v (ws.map bs)) (hb : decide (yesT ∈ ws) = b) :
    Calls Tryz.prog 76 #[v, .string ⟨#[121, 101, 115]⟩] w fun e w' => e = .returned (.bool b) ∧ w = w' := contains_str h hb
theorem contains_no {w : World} {v : Value} {ws : List (List UInt8)} {b : Bool} (h : SV 1 StrC w v (ws.map bs)) (hb : decide (noT ∈ ws) = b) :
    Calls Tryz.prog 76 #[v, .string ⟨#[110, 111]⟩] w fun e w' => e = .returned (.bool b) ∧ w = w' := contains_str h hb
theorem list_beq (a b : List UInt8) : (a == b) = decide (a = b) := by rw [Bool.eq_iff_iff]; simp
theorem bits_step {w W W' : World} {g : Nat} {dims : List Int} {ws : List (List UInt8)} {x0 x1 xd xw xn xb y : Value} {ns : List Rq} {bts bts1 : List Bq} (hb : B4 W g x0 x1 xn xb) (hr : R4 w W) (h : RdRows w.heap.size g dims ws xd xw xn xb ns bts W) (hg : W.grownBy W' xb.ownBlock) (h1 : SO (g + 1) 46 2 BitC W' y bts1) :
    B4 W' g x0 x1 xn xb ∧ R4 w W' ∧ RdRows w.heap.size g dims ws xd xw xn y ns bts1 W' := by
  have hB : Below (g + 1) W W' := Below.grown (Below.refl _ _) hg h.lt h.bits.low
  exact ⟨hb.below (Nat.lt_succ_self _) hB, hr.below (Below.mono hB (by have := h.lo; omega)), h.bit hg h1⟩
theorem nums_step {w W W' : World} {g : Nat} {dims : List Int} {ws : List (List UInt8)} {x0 x1 xd xw xn xb y : Value} {ns ns1 : List Rq} {bts : List Bq} (hb : B4 W g x0 x1 xn xb) (hr : R4 w W) (h : RdRows w.heap.size g dims ws xd xw xn xb ns bts W) (hg : W.grownBy W' xn.ownBlock) (h1 : SO (g + 1) 83 4 (RatO (g + 1)) W' y ns1) :
    B4 W' g x0 x1 xn xb ∧ R4 w W' ∧ RdRows w.heap.size g dims ws xd xw y xb ns1 bts W' := by
  have hB : Below (g + 1) W W' := Below.grown (Below.refl _ _) hg h.lt h.nums.low
  exact ⟨hb.below (Nat.lt_succ_self _) hB, hr.below (Below.mono hB (by have := h.lo; omega)), h.num hg h1⟩
theorem one_bit {w : World} {f : Int} {on : Bool} {g : Nat} (hg : w.heap.size = g) : SV 2 BitC (w.alloc (.cells #[.int .i64 f, .bool on] 46)) (.slice (some ⟨g, 0, none⟩) 1 1) [⟨f, on⟩] := by
  subst hg
  exact (SO.lit (e := 46) (R := BitC) w [.int .i64 f, .bool on] [⟨f, on⟩] (by simp) (Rows.one rfl rfl)).sv
theorem one_rat2 {base b : Nat} {w : World} {f : Int} {n : Bool} {x y : Value} {q : Rq} {g : Nat} (hg : w.heap.size = g) (h : RO b w (.agg #[.int .i64 f, .bool n, x, y]) q) (hb : base ≤ b) :
    SV 4 (RatO base) (w.alloc (.cells #[.int .i64 f, .bool n, x, y] 83)) (.slice (some ⟨g, 0, none⟩) 1 1) [q] := by
  subst hg
  exact one_rat h hb
theorem parse_w {w : World} {wj : List UInt8} {sj : ByteArray} {q : Rq} {pe : Int} (hg : Glob w) (hsj : bs wj = sj) (hl : wj.length ≤ 20000) (hq : fparse wj = (q, pe)) :
    Calls Tryz.prog 77 #[.string sj] w fun e w' => ∃ A c B d, e = .returned (.tuple #[.agg #[.int .i64 q.f, .bool q.neg, .slice A q.num.length c, .slice B q.den.length d], .int .i64 pe]) ∧ RO w.heap.size w' (.agg #[.int .i64 q.f, .bool q.neg, .slice A q.num.length c, .slice B q.den.length d]) q ∧ Ext w w' := by
  subst hsj
  refine (parse_calls hg (by rw [bs_size]; omega) hq).mono ?_
  rintro e w' ⟨r, rfl, hr, he⟩
  obtain ⟨A, c, B, d, rfl⟩ := hr.form
  exact ⟨A, c, B, d, rfl, hr, he⟩
set_option maxRecDepth 10000 in
set_option maxHeartbeats 4000000 in
theorem read_words {P : List UInt8 → Prop} (hI : IA P) {w : World} {l : List UInt8} {dims : List Int} {ws : List (List UInt8)} {m : Vq × Int} (hg : Glob w) (hP : P l) (h : l.length ≤ 20000) (hn : takeF 3 l = some (dims, [], ws))
    (hm : (match readW (kindW ws) ws with | none => (zeroV, 5) | some (ns, bts) => (⟨kindW ws, dims, ns, bts⟩, 0)) = m) :
    Calls Tryz.prog 25 #[.string (bs l)] w fun e w' => ∃ r, e = .returned (.tuple #[r, .int .i64 m.2]) ∧ VO w.heap.size w' r m.1 ∧ Ext w w' := by
  have hs : (bs l).size ≤ 20000 := by rw [bs_size]; exact h
  have hr := R4.ext ((Ext.refl _).alloc (.cells #[.string (bs l), .slice none 0 0] 102)) (R4.init w (.int .i64 0) (.slice none 0 0) (.slice none 0 0) (.slice none 0 0) 29)
  have HT := Aside.mk (take_whole hI (w := w) hP h)
  rw [hn] at HT
  have HG := Aside.mk hg
  have HM := Aside.mk hm
  have HLEN := Aside.mk (takeF_len _ _ _ _ _ hn)
  have HLEN0 := Aside.mk h
  have he : (!(bs []).toList.isEmpty) = false := by rw [Lib.toList_data, bs_data]; rfl
  obtain ⟨b1, hb1⟩ : ∃ b, decide (yesT ∈ ws) = b := ⟨_, rfl⟩
  obtain ⟨b2, hb2⟩ : ∃ b, decide (noT ∈ ws) = b := ⟨_, rfl⟩
  have HY := Aside.mk hb1
  have HN := Aside.mk hb2
  have HKK : Aside (kindW ws = if (b1 || b2) = true then 2 else 1) := ⟨by unfold kindW; rw [← hb1, ← hb2]; simp⟩
  clear hg hm h hn hP hb1 hb2
  go_enter Tryz.func25, Tryz.ntmps25
  go_upto_region 8 with (go_at_call 75; (with_reducible refine HT.out.mono ?_); rintro e w2 hT; obtain ⟨A, d, c, B, n, k, rfl, hd, hx, hbz, hrz, hf⟩ := hT.form; have hr2 := hr.below hf.below; have HX := Aside.mk hx; have HD := Aside.mk hd; have HRZ := Aside.mk hrz; clear hT hf hx hd hrz)
  have HZ2 : Aside (w.heap.size + 2 ≤ w2.heap.size) := ⟨by have := hbz.lt; omega⟩
  have HDN : Aside ((Value.slice A d c).ownBlock ≠ some w2.heap.size) := ⟨fun e => by
    obtain ⟨xs, ho⟩ := HX.out.row
    have := (ho.lt _ e).2; omega⟩
  have HWN : Aside ((Value.slice B n k).ownBlock ≠ some w2.heap.size) := ⟨fun e => by
    obtain ⟨xs, ho⟩ := HRZ.out.row.row
    have := (ho.lt _ e).2; omega⟩
  have HALL : Aside (∀ k0 : Int, B4 (w2.alloc (.cells #[.int .i64 k0, .slice A d c, .slice none 0 0, .slice none 0 0] 29)) w2.heap.size (.int .i64 k0) (.slice A d c) (.slice none 0 0) (.slice none 0 0) ∧ R4 w (w2.alloc (.cells #[.int .i64 k0, .slice A d c, .slice none 0 0, .slice none 0 0] 29)) ∧ RBox (w2.alloc (.cells #[.int .i64 k0, .slice A d c, .slice none 0 0, .slice none 0 0] 29)) (w.heap.size + 1) (bs []) (.slice B n k) ∧ RdRows w.heap.size w2.heap.size dims ws (.slice A d c) (.slice B n k) (.slice none 0 0) (.slice none 0 0) [] [] (w2.alloc (.cells #[.int .i64 k0, .slice A d c, .slice none 0 0, .slice none 0 0] 29))) := ⟨fun k0 =>
    ⟨B4.new rfl _ _ _ _ _, R4.ext ((Ext.refl w2).alloc _) hr2, RBox.ext ((Ext.refl _).alloc _) hbz, HZ2.out, by simp, (HX.out.mono (by simp)).ext IntC.ext ((Ext.refl _).alloc _), HDN.out, by
      have := HRZ.out.row; rw [List.nil_append] at this; exact this.ext StrC.ext ((Ext.refl _).alloc _), HWN.out, SO.nil, SO.nil⟩⟩
  obtain ⟨hb7, hr7, hbx, hrow⟩ := HALL.out 1
  have HWS := Aside.mk hrow.words
  clear hrow
  clear hbz hr2 hr
  go_cut [48] from 37 to 48 (fun v wx => v = .bool (b1 || b2) ∧ wx = (w2.alloc (.cells #[.int .i64 1, .slice A d c, .slice none 0 0, .slice none 0 0] 29)))
  case first =>
    cases b1
    · go_wp2_with (first | (go_at_call 76; (with_reducible refine (contains_yes HWS.out.sv HY.out).mono ?_); rintro e w' ⟨rfl, rfl⟩) | (go_at_call 76; (with_reducible refine (contains_no HWS.out.sv HN.out).mono ?_); rintro e w' ⟨rfl, rfl⟩))
      go_meet
      exact ⟨by rfl, rfl⟩
    · go_wp2_with (first | (go_at_call 76; (with_reducible refine (contains_yes HWS.out.sv HY.out).mono ?_); rintro e w' ⟨rfl, rfl⟩) | (go_at_call 76; (with_reducible refine (contains_no HWS.out.sv HN.out).mono ?_); rintro e w' ⟨rfl, rfl⟩))
      go_meet
      exact ⟨by rfl, rfl⟩
  case rest =>
    obtain ⟨rfl, rfl⟩ := hcut
    obtain ⟨kb, hkb⟩ : ∃ b, (b1 || b2) = b := ⟨_, rfl⟩
    obtain ⟨kk, hkk⟩ : ∃ k, kindW ws = k := ⟨_, rfl⟩
    rw [hkb] at HKK ⊢
    rw [hkk] at HKK HM
    clear hkb hkk HY HN
    have HZ1 : Aside (w.heap.size < w2.heap.size) := ⟨by have := HZ2.out; omega⟩
    go_upto_if 48 with fail
    go_cut [] from 49 to 51 (fun wx => B4 wx w2.heap.size (.int .i64 kk) (.slice A d c) (.slice none 0 0) (.slice none 0 0) ∧ R4 w wx ∧ RBox wx (w.heap.size + 1) (bs []) (.slice B n k) ∧ Aside (RdRows w.heap.size w2.heap.size dims ws (.slice A d c) (.slice B n k) (.slice none 0 0) (.slice none 0 0) [] [] wx))
    case first =>
      cases kb
      · go_wp2_with fail
        go_meet
        obtain rfl := HKK.out
        exact ⟨(HALL.out 1).1, (HALL.out 1).2.1, (HALL.out 1).2.2.1, ⟨(HALL.out 1).2.2.2⟩⟩
      · go_wp2_with fail
        go_meet
        obtain rfl := HKK.out
        exact ⟨(HALL.out 2).1, (HALL.out 2).2.1, (HALL.out 2).2.2.1, ⟨(HALL.out 2).2.2.2⟩⟩
    case rest =>
      clear hb7 hr7 hbx HALL HWS HKK HX HD HRZ HDN HWN
      obtain ⟨hb7, hr7, hbx, HROW⟩ := hcut
      have hnw : n = ws.length := by
        obtain ⟨A', c', e, _⟩ := HROW.out.words.sv.form
        injection e with _ e _
        simpa using e
      have hn5 : n ≤ 512 := by rw [hnw]; exact HLEN.out.2.1
      have HNW := Aside.mk hnw
      clear hnw
      go_wp2_with fail
      go_loopw [56] (fun i wr => ∃ (j : Nat) (NA : Option Addr) (nn nc : Nat) (BA : Option Addr) (bn bc : Nat), j ≤ n ∧ nn ≤ j ∧ bn ≤ j ∧ i = .int .i64 (j : Int) ∧ B4 wr w2.heap.size (.int .i64 kk) (.slice A d c) (.slice NA nn nc) (.slice BA bn bc) ∧ R4 w wr ∧
        Aside (∃ ns bts, readW kk (ws.take j) = some (ns, bts) ∧ ns.length = nn ∧ bts.length = bn ∧ RdRows w.heap.size w2.heap.size dims ws (.slice A d c) (.slice B n k) (.slice NA nn nc) (.slice BA bn bc) ns bts wr)) (fun i _ => n - (intOf i).toNat)
      case atStart => exact ⟨0, none, 0, 0, none, 0, 0, by omega, by omega, by omega, rfl, hb7, hr7, ⟨[], [], rfl, rfl, rfl, HROW.out⟩⟩
      case round =>
        clear hb7 hr7 hbx HROW
        obtain ⟨j, NA, nn, nc, BA, bn, bc, hj, hnj, hbj, rfl, hb7, hr7, HS⟩ := hrel
        obtain ⟨ns, bts, hrw, hnn, hbn, hrow⟩ := HS.out
        have HRW := Aside.mk hrw
        have HNN := Aside.mk hnn
        have HBN := Aside.mk hbn
        have HROW := Aside.mk hrow
        clear HS hrw hnn hbn
        by_cases hlt : j < n
        · obtain ⟨wj, hwj⟩ : ∃ x, ws[j]? = some x := ⟨ws[j]'(by rw [← HNW.out]; exact hlt), List.getElem?_eq_getElem _⟩
          obtain ⟨ad, cs, rfl, _, h2, h3⟩ := hrow.words.sv.at' (by decide) j (a := bs wj) (by simp [hwj])
          have hsp := hrow.words.sv.spot ad rfl
          obtain ⟨wb, wo, s⟩ := ad
          obtain rfl : s = none := hsp
          obtain rfl : cs = [.string (bs wj)] := h2
          have hcell := h3 0 _ rfl
          rw [(addr_of rfl _).2] at hcell
          simp only [Nat.mul_one, Nat.add_zero] at hcell
          obtain ⟨sj, hsj⟩ : ∃ s, bs wj = s := ⟨_, rfl⟩
          rw [hsj] at hcell
          have HSJ := Aside.mk hsj
          have HLW : Aside (wj.length ≤ 20000) := ⟨Nat.le_trans (HLEN.out.2.2 wj (List.mem_of_getElem? hwj)) HLEN0.out⟩
          obtain ⟨q, pe, hq⟩ : ∃ q pe, fparse wj = (q, pe) := ⟨_, _, rfl⟩
          have HQ := Aside.mk hq
          have HGR := Aside.mk (HG.out.ext hr7.1.out)
          have HBAD : Aside (stepW kk wj = none → m = (zeroV, 5)) := ⟨fun h => by rw [← HM.out, readW_bad kk ws j wj hwj h]⟩
          have HNXT : Aside (∀ a b, stepW kk wj = some (a, b) → readW kk (ws.take (j + 1)) = some (ns ++ a, bts ++ b)) := ⟨fun a b h => by
            rw [List.take_add_one, hwj]
            show readW kk (ws.take j ++ [wj]) = _
            rw [readW_snoc, HRW.out]
            simp only
            rw [h]⟩
          clear h3 hsj hrow hwj
          obtain ⟨by', hby⟩ : ∃ b, (sj.toList == [121, 101, 115]) = b := ⟨_, rfl⟩
          obtain ⟨bn', hbn'⟩ : ∃ b, (sj.toList == [110, 111]) = b := ⟨_, rfl⟩
          have HBY : Aside (by' = decide (wj = yesT)) := ⟨by rw [← hby, ← HSJ.out, Lib.toList_data, bs_data]; exact list_beq _ _⟩
          have HBNO : Aside (bn' = decide (wj = noT)) := ⟨by rw [← hbn', ← HSJ.out, Lib.toList_data, bs_data]; exact list_beq _ _⟩
          clear hq
          by_cases hk : kk = 2
          · have hk2 : (kk == 2) = true := by simp [hk]
            have HK2 := Aside.mk hk
            clear hk
            cases by'
            · cases bn'
              · have HNY := Aside.mk (of_decide_eq_false HBY.out.symm)
                have HNO := Aside.mk (of_decide_eq_false HBNO.out.symm)
                by_cases hpe : pe ≠ 0
                have HPE := Aside.mk hpe
                have hpe1 : (pe == 0) = false := beq_eq_false_iff_ne.2 hpe
                have hpe2 : (pe != 0) = true := by simp [bne, hpe1]
                clear hpe
                rotate_left
                obtain rfl : pe = 0 := Classical.not_not.1 hpe
                clear hpe
                rotate_left
                · have HST : Aside (stepW kk wj = none) := ⟨by
                    unfold stepW; rw [if_neg (by rintro ⟨_, h | h⟩; exact HNY.out h; exact HNO.out h), HQ.out, if_pos (.inl HPE.out)]⟩
                  have HMB := Aside.mk (HBAD.out HST.out)
                  go_wp2_with (first | (go_at_call 77; (with_reducible refine (parse_w HGR.out HSJ.out HLW.out HQ.out).mono ?_); rintro e w3 ⟨A4, c4, Q4, d4, rfl, hro, he⟩; have hb8 := hb7.ext (he.alloc (.cells #[.int .i64 q.f, .bool q.neg, .slice A4 q.num.length c4, .slice Q4 q.den.length d4] 83)); have hr8 := R4.ext (he.alloc (.cells #[.int .i64 q.f, .bool q.neg, .slice A4 q.num.length c4, .slice Q4 q.den.length d4] 83)) hr7; have HROW8 := Aside.mk (HROW.out.ext (he.alloc (.cells #[.int .i64 q.f, .bool q.neg, .slice A4 q.num.length c4, .slice Q4 q.den.length d4] 83))); have HRO := Aside.mk (hro.ext ((Ext.refl w3).alloc (.cells #[.int .i64 q.f, .bool q.neg, .slice A4 q.num.length c4, .slice Q4 q.den.length d4] 83))); have HLR := Aside.mk (Nat.lt_of_lt_of_le HROW.out.lt (Nat.le_refl _)); clear hro he))
                  have HR9 := Aside.mk hr8
                  refine bodyPost_ret (v := .tuple #[.agg #[.int .i64 0, .slice none 0 0, .slice none 0 0, .slice none 0 0], .int .i64 5]) (by simp [results, Tryz.results25, go_sem, hr8]) rfl ?_
                  rw [HMB.out]
                  exact ⟨_, rfl, VO.zero _ _, ext_set4 HR9.out.1.out (Nat.le_refl _) _ _ _ _⟩
                · by_cases hf : q.f = 0
                  · have hf1 : (q.f == 0) = true := by simp [hf]
                    have HST : Aside (stepW kk wj = none) := ⟨by
                      unfold stepW; rw [if_neg (by rintro ⟨_, h | h⟩; exact HNY.out h; exact HNO.out h), HQ.out, if_pos (.inr ⟨HK2.out, hf⟩)]⟩
                    clear hf
                    have HMB := Aside.mk (HBAD.out HST.out)
                    go_wp2_with (first | (go_at_call 77; (with_reducible refine (parse_w HGR.out HSJ.out HLW.out HQ.out).mono ?_); rintro e w3 ⟨A4, c4, Q4, d4, rfl, hro, he⟩; have hb8 := hb7.ext (he.alloc (.cells #[.int .i64 q.f, .bool q.neg, .slice A4 q.num.length c4, .slice Q4 q.den.length d4] 83)); have hr8 := R4.ext (he.alloc (.cells #[.int .i64 q.f, .bool q.neg, .slice A4 q.num.length c4, .slice Q4 q.den.length d4] 83)) hr7; have HROW8 := Aside.mk (HROW.out.ext (he.alloc (.cells #[.int .i64 q.f, .bool q.neg, .slice A4 q.num.length c4, .slice Q4 q.den.length d4] 83))); have HRO := Aside.mk (hro.ext ((Ext.refl w3).alloc (.cells #[.int .i64 q.f, .bool q.neg, .slice A4 q.num.length c4, .slice Q4 q.den.length d4] 83))); have HLR := Aside.mk (Nat.lt_of_lt_of_le HROW.out.lt (Nat.le_refl _)); clear hro he))
                    have HR9 := Aside.mk hr8
                    refine bodyPost_ret (v := .tuple #[.agg #[.int .i64 0, .slice none 0 0, .slice none 0 0, .slice none 0 0], .int .i64 5]) (by simp [results, Tryz.results25, go_sem, hr8]) rfl ?_
                    rw [HMB.out]
                    exact ⟨_, rfl, VO.zero _ _, ext_set4 HR9.out.1.out (Nat.le_refl _) _ _ _ _⟩
                  · have hf1 : (q.f == 0) = false := beq_eq_false_iff_ne.2 hf
                    have HST : Aside (stepW kk wj = some ([], [⟨q.f, false⟩])) := ⟨by
                      unfold stepW; rw [if_neg (by rintro ⟨_, h | h⟩; exact HNY.out h; exact HNO.out h), HQ.out, if_neg (by rintro (h | h); exact h rfl; exact hf h.2), if_pos HK2.out]⟩
                    clear hf
                    have HLB : Aside (bts.length + [(⟨q.f, false⟩ : Bq)].length ≤ 1073741824) := ⟨by have := HBN.out; simp; omega⟩
                    have HLB2 : Aside ((bts ++ [(⟨q.f, false⟩ : Bq)]).length = bn + 1) := ⟨by simp [HBN.out]⟩
                    have HNX := Aside.mk (HNXT.out _ _ HST.out)
                    go_wp2_with (first | (go_at_call 77; (with_reducible refine (parse_w HGR.out HSJ.out HLW.out HQ.out).mono ?_); rintro e w3 ⟨A4, c4, Q4, d4, rfl, hro, he⟩; have hb8 := hb7.ext (he.alloc (.cells #[.int .i64 q.f, .bool q.neg, .slice A4 q.num.length c4, .slice Q4 q.den.length d4] 83)); have hr8 := R4.ext (he.alloc (.cells #[.int .i64 q.f, .bool q.neg, .slice A4 q.num.length c4, .slice Q4 q.den.length d4] 83)) hr7; have HROW8 := Aside.mk (HROW.out.ext (he.alloc (.cells #[.int .i64 q.f, .bool q.neg, .slice A4 q.num.length c4, .slice Q4 q.den.length d4] 83))); have HRO := Aside.mk (hro.ext ((Ext.refl w3).alloc (.cells #[.int .i64 q.f, .bool q.neg, .slice A4 q.num.length c4, .slice Q4 q.den.length d4] 83))); have HLR := Aside.mk (Nat.lt_of_lt_of_le HROW.out.lt (Nat.le_refl _)); clear hro he) | (at_builtin; refine append_so (R := BitC) (w2.heap.size + 1) elemBit rfl _ _ rfl _ _ bts [⟨q.f, false⟩] (HROW8.out.ext ((Ext.refl _).alloc (.cells #[.int .i64 q.f, .bool false] 46))).bits (one_bit (g := w3.heap.size + 1) (by simp)) BitC.one (fun _ _ _ _ h => h) rfl rfl (HROW8.out.ext ((Ext.refl _).alloc (.cells #[.int .i64 q.f, .bool false] 46))).lt HLB.out ?_; intro v1 w5 ho hg; obtain ⟨A5, c5, rfl, _⟩ := ho.sv.form; rw [HLB2.out] at ho ⊢; obtain ⟨hb9, hr9, hrow9⟩ := bits_step (hb8.ext ((Ext.refl _).alloc (.cells #[.int .i64 q.f, .bool false] 46))) (R4.ext ((Ext.refl _).alloc (.cells #[.int .i64 q.f, .bool false] 46)) hr8) (HROW8.out.ext ((Ext.refl _).alloc (.cells #[.int .i64 q.f, .bool false] 46))) hg ho; have HROW9 := Aside.mk hrow9; clear ho hg hrow9))
                    have HB9 := Aside.mk hb9
                    have HR9 := Aside.mk hr9
                    go_roundw
                    case rel => exact ⟨j + 1, NA, nn, nc, A5, bn + 1, c5, by omega, by omega, by omega, by go_num, HB9.out.put 3 _, HR9.out.set HZ1.out 3 _, ⟨ns ++ [], _, HNX.out, by simp [HNN.out], HLB2.out, by rw [List.append_nil]; exact HROW9.out.set 3 _⟩⟩
                    case measure => simp [intOf]; omega
              · have HST : Aside (stepW kk wj = some ([], [⟨0, false⟩])) := ⟨by
                  have h1 := of_decide_eq_true HBNO.out.symm
                  have h2 := of_decide_eq_false HBY.out.symm
                  unfold stepW; rw [if_pos ⟨HK2.out, .inr h1⟩, decide_eq_false h2]⟩
                have HLB : Aside (bts.length + [(⟨0, false⟩ : Bq)].length ≤ 1073741824) := ⟨by have := HBN.out; simp; omega⟩
                have HLB2 : Aside ((bts ++ [(⟨0, false⟩ : Bq)]).length = bn + 1) := ⟨by simp [HBN.out]⟩
                have HNX := Aside.mk (HNXT.out _ _ HST.out)
                go_wp2_with (first | (go_at_call 77; (with_reducible refine (parse_w HGR.out HSJ.out HLW.out HQ.out).mono ?_); rintro e w3 ⟨A4, c4, Q4, d4, rfl, hro, he⟩; have hb8 := hb7.ext (he.alloc (.cells #[.int .i64 q.f, .bool q.neg, .slice A4 q.num.length c4, .slice Q4 q.den.length d4] 83)); have hr8 := R4.ext (he.alloc (.cells #[.int .i64 q.f, .bool q.neg, .slice A4 q.num.length c4, .slice Q4 q.den.length d4] 83)) hr7; have HROW8 := Aside.mk (HROW.out.ext (he.alloc (.cells #[.int .i64 q.f, .bool q.neg, .slice A4 q.num.length c4, .slice Q4 q.den.length d4] 83))); have HRO := Aside.mk (hro.ext ((Ext.refl w3).alloc (.cells #[.int .i64 q.f, .bool q.neg, .slice A4 q.num.length c4, .slice Q4 q.den.length d4] 83))); have HLR := Aside.mk (Nat.lt_of_lt_of_le HROW.out.lt (Nat.le_refl _)); clear hro he) | (at_builtin; refine append_so (R := BitC) (w2.heap.size + 1) elemBit rfl _ _ rfl _ _ bts [⟨0, false⟩] (HROW8.out.ext ((Ext.refl _).alloc (.cells #[.int .i64 0, .bool false] 46))).bits (one_bit (g := w3.heap.size + 1) (by simp)) BitC.one (fun _ _ _ _ h => h) rfl rfl (HROW8.out.ext ((Ext.refl _).alloc (.cells #[.int .i64 0, .bool false] 46))).lt HLB.out ?_; intro v1 w5 ho hg; obtain ⟨A5, c5, rfl, _⟩ := ho.sv.form; rw [HLB2.out] at ho ⊢; obtain ⟨hb9, hr9, hrow9⟩ := bits_step (hb8.ext ((Ext.refl _).alloc (.cells #[.int .i64 0, .bool false] 46))) (R4.ext ((Ext.refl _).alloc (.cells #[.int .i64 0, .bool false] 46)) hr8) (HROW8.out.ext ((Ext.refl _).alloc (.cells #[.int .i64 0, .bool false] 46))) hg ho; have HROW9 := Aside.mk hrow9; clear ho hg hrow9))
                have HB9 := Aside.mk hb9
                have HR9 := Aside.mk hr9
                go_roundw
                case rel => exact ⟨j + 1, NA, nn, nc, A5, bn + 1, c5, by omega, by omega, by omega, by go_num, HB9.out.put 3 _, HR9.out.set HZ1.out 3 _, ⟨ns ++ [], _, HNX.out, by simp [HNN.out], HLB2.out, by rw [List.append_nil]; exact HROW9.out.set 3 _⟩⟩
                case measure => simp [intOf]; omega
            · have HST : Aside (stepW kk wj = some ([], [⟨0, true⟩])) := ⟨by
                have h1 := of_decide_eq_true HBY.out.symm
                unfold stepW; rw [if_pos ⟨HK2.out, .inl h1⟩, decide_eq_true h1]⟩
              have HLB : Aside (bts.length + [(⟨0, true⟩ : Bq)].length ≤ 1073741824) := ⟨by have := HBN.out; simp; omega⟩
              have HLB2 : Aside ((bts ++ [(⟨0, true⟩ : Bq)]).length = bn + 1) := ⟨by simp [HBN.out]⟩
              have HNX := Aside.mk (HNXT.out _ _ HST.out)
              go_wp2_with (first | (go_at_call 77; (with_reducible refine (parse_w HGR.out HSJ.out HLW.out HQ.out).mono ?_); rintro e w3 ⟨A4, c4, Q4, d4, rfl, hro, he⟩; have hb8 := hb7.ext (he.alloc (.cells #[.int .i64 q.f, .bool q.neg, .slice A4 q.num.length c4, .slice Q4 q.den.length d4] 83)); have hr8 := R4.ext (he.alloc (.cells #[.int .i64 q.f, .bool q.neg, .slice A4 q.num.length c4, .slice Q4 q.den.length d4] 83)) hr7; have HROW8 := Aside.mk (HROW.out.ext (he.alloc (.cells #[.int .i64 q.f, .bool q.neg, .slice A4 q.num.length c4, .slice Q4 q.den.length d4] 83))); have HRO := Aside.mk (hro.ext ((Ext.refl w3).alloc (.cells #[.int .i64 q.f, .bool q.neg, .slice A4 q.num.length c4, .slice Q4 q.den.length d4] 83))); have HLR := Aside.mk (Nat.lt_of_lt_of_le HROW.out.lt (Nat.le_refl _)); clear hro he) | (at_builtin; refine append_so (R := BitC) (w2.heap.size + 1) elemBit rfl _ _ rfl _ _ bts [⟨0, true⟩] (HROW8.out.ext ((Ext.refl _).alloc (.cells #[.int .i64 0, .bool true] 46))).bits (one_bit (g := w3.heap.size + 1) (by simp)) BitC.one (fun _ _ _ _ h => h) rfl rfl (HROW8.out.ext ((Ext.refl _).alloc (.cells #[.int .i64 0, .bool true] 46))).lt HLB.out ?_; intro v1 w5 ho hg; obtain ⟨A5, c5, rfl, _⟩ := ho.sv.form; rw [HLB2.out] at ho ⊢; obtain ⟨hb9, hr9, hrow9⟩ := bits_step (hb8.ext ((Ext.refl _).alloc (.cells #[.int .i64 0, .bool true] 46))) (R4.ext ((Ext.refl _).alloc (.cells #[.int .i64 0, .bool true] 46)) hr8) (HROW8.out.ext ((Ext.refl _).alloc (.cells #[.int .i64 0, .bool true] 46))) hg ho; have HROW9 := Aside.mk hrow9; clear ho hg hrow9))
              have HB9 := Aside.mk hb9
              have HR9 := Aside.mk hr9
              go_roundw
              case rel => exact ⟨j + 1, NA, nn, nc, A5, bn + 1, c5, by omega, by omega, by omega, by go_num, HB9.out.put 3 _, HR9.out.set HZ1.out 3 _, ⟨ns ++ [], _, HNX.out, by simp [HNN.out], HLB2.out, by rw [List.append_nil]; exact HROW9.out.set 3 _⟩⟩
              case measure => simp [intOf]; omega
          · have hk2 : (kk == 2) = false := beq_eq_false_iff_ne.2 hk
            have HK2 := Aside.mk hk
            clear hk
            by_cases hpe : pe = 0
            · obtain rfl := hpe
              have HST : Aside (stepW kk wj = some ([q], [])) := ⟨by
                unfold stepW; rw [if_neg (fun h => HK2.out h.1), HQ.out, if_neg (by rintro (h | h); exact h rfl; exact HK2.out h.1), if_neg HK2.out]⟩
              have HLB : Aside (ns.length + [q].length ≤ 1073741824) := ⟨by have := HNN.out; simp; omega⟩
              have HLB2 : Aside ((ns ++ [q]).length = nn + 1) := ⟨by simp [HNN.out]⟩
              have HNX := Aside.mk (HNXT.out _ _ HST.out)
              go_wp2_with (first | (go_at_call 77; (with_reducible refine (parse_w HGR.out HSJ.out HLW.out HQ.out).mono ?_); rintro e w3 ⟨A4, c4, Q4, d4, rfl, hro, he⟩; have hb8 := hb7.ext (he.alloc (.cells #[.int .i64 q.f, .bool q.neg, .slice A4 q.num.length c4, .slice Q4 q.den.length d4] 83)); have hr8 := R4.ext (he.alloc (.cells #[.int .i64 q.f, .bool q.neg, .slice A4 q.num.length c4, .slice Q4 q.den.length d4] 83)) hr7; have HROW8 := Aside.mk (HROW.out.ext (he.alloc (.cells #[.int .i64 q.f, .bool q.neg, .slice A4 q.num.length c4, .slice Q4 q.den.length d4] 83))); have HRO := Aside.mk (hro.ext ((Ext.refl w3).alloc (.cells #[.int .i64 q.f, .bool q.neg, .slice A4 q.num.length c4, .slice Q4 q.den.length d4] 83))); have HLR := Aside.mk (Nat.lt_of_lt_of_le HROW.out.lt (Nat.le_refl _)); clear hro he) | (at_builtin; refine append_so (R := RatO (w2.heap.size + 1)) (w2.heap.size + 1) elemRat rfl _ _ rfl _ _ ns [q] (HROW8.out.ext ((Ext.refl _).alloc (.cells #[.int .i64 q.f, .bool q.neg, .slice A4 q.num.length c4, .slice Q4 q.den.length d4] 83))).nums (one_rat2 (g := w3.heap.size + 1) (by simp) HRO.out HLR.out) RatO.one (fun _ hg => RatO.grown (HROW8.out.ext ((Ext.refl _).alloc (.cells #[.int .i64 q.f, .bool q.neg, .slice A4 q.num.length c4, .slice Q4 q.den.length d4] 83))).nums (by decide) hg) rfl rfl (HROW8.out.ext ((Ext.refl _).alloc (.cells #[.int .i64 q.f, .bool q.neg, .slice A4 q.num.length c4, .slice Q4 q.den.length d4] 83))).lt HLB.out ?_; intro v1 w5 ho hg; obtain ⟨A5, c5, rfl, _⟩ := ho.sv.form; rw [HLB2.out] at ho ⊢; obtain ⟨hb9, hr9, hrow9⟩ := nums_step (hb8.ext ((Ext.refl _).alloc (.cells #[.int .i64 q.f, .bool q.neg, .slice A4 q.num.length c4, .slice Q4 q.den.length d4] 83))) (R4.ext ((Ext.refl _).alloc (.cells #[.int .i64 q.f, .bool q.neg, .slice A4 q.num.length c4, .slice Q4 q.den.length d4] 83)) hr8) (HROW8.out.ext ((Ext.refl _).alloc (.cells #[.int .i64 q.f, .bool q.neg, .slice A4 q.num.length c4, .slice Q4 q.den.length d4] 83))) hg ho; have HROW9 := Aside.mk hrow9; clear ho hg hrow9))
              have HB9 := Aside.mk hb9
              have HR9 := Aside.mk hr9
              go_roundw
              case rel => exact ⟨j + 1, A5, nn + 1, c5, BA, bn, bc, by omega, by omega, by omega, by go_num, HB9.out.put 2 _, HR9.out.set HZ1.out 2 _, ⟨_, bts ++ [], HNX.out, HLB2.out, by simp [HBN.out], by rw [List.append_nil]; exact HROW9.out.set 2 _⟩⟩
              case measure => simp [intOf]; omega
            · have hpe1 : (pe == 0) = false := beq_eq_false_iff_ne.2 hpe
              have hpe2 : (pe != 0) = true := by simp [bne, hpe1]
              have HST : Aside (stepW kk wj = none) := ⟨by
                unfold stepW; rw [if_neg (fun h => HK2.out h.1), HQ.out, if_pos (.inl hpe)]⟩
              clear hpe
              have HMB := Aside.mk (HBAD.out HST.out)
              go_wp2_with (first | (go_at_call 77; (with_reducible refine (parse_w HGR.out HSJ.out HLW.out HQ.out).mono ?_); rintro e w3 ⟨A4, c4, Q4, d4, rfl, hro, he⟩; have hb8 := hb7.ext (he.alloc (.cells #[.int .i64 q.f, .bool q.neg, .slice A4 q.num.length c4, .slice Q4 q.den.length d4] 83)); have hr8 := R4.ext (he.alloc (.cells #[.int .i64 q.f, .bool q.neg, .slice A4 q.num.length c4, .slice Q4 q.den.length d4] 83)) hr7; have HROW8 := Aside.mk (HROW.out.ext (he.alloc (.cells #[.int .i64 q.f, .bool q.neg, .slice A4 q.num.length c4, .slice Q4 q.den.length d4] 83))); have HRO := Aside.mk (hro.ext ((Ext.refl w3).alloc (.cells #[.int .i64 q.f, .bool q.neg, .slice A4 q.num.length c4, .slice Q4 q.den.length d4] 83))); have HLR := Aside.mk (Nat.lt_of_lt_of_le HROW.out.lt (Nat.le_refl _)); clear hro he))
              have HR9 := Aside.mk hr8
              refine bodyPost_ret (v := .tuple #[.agg #[.int .i64 0, .slice none 0 0, .slice none 0 0, .slice none 0 0], .int .i64 5]) (by simp [results, Tryz.results25, go_sem, hr8]) rfl ?_
              rw [HMB.out]
              exact ⟨_, rfl, VO.zero _ _, ext_set4 HR9.out.1.out (Nat.le_refl _) _ _ _ _⟩
        · have hjn : j = n := by omega
          have HMM : Aside (m = (⟨kk, dims, ns, bts⟩, 0)) := ⟨by
            rw [← HM.out, show ws = ws.take j from by rw [hjn, HNW.out, List.take_length], HRW.out]⟩
          clear hrow
          have HK := Aside.mk hr7
          go_wp2_with fail
          refine bodyPost_ret (v := .tuple #[.agg #[.int .i64 kk, .slice A d c, .slice NA nn nc, .slice BA bn bc], .int .i64 0]) (by simp [results, Tryz.results25, go_sem, hr7]) rfl ?_
          rw [HMM.out]
          refine ⟨_, rfl, ⟨_, _, _, rfl, ?_, ?_, ?_⟩, ext_set4 HK.out.1.out (Nat.le_refl _) _ _ _ _⟩
          · exact ((HROW.out.dims.set4 (Nat.lt_succ_of_lt (Nat.lt_succ_self _)) _ _ _ _ (fun _ _ _ _ _ _ h => h)).mono (Nat.le_succ_of_le (Nat.le_succ _)))
          · exact ((HROW.out.nums.set4 (Nat.lt_succ_of_lt HZ1.out) _ _ _ _ (fun w p hp u c a h => RatO.set hp u c a h)).mono (Nat.le_of_lt (Nat.lt_succ_of_lt HZ1.out))).monoR (fun _ _ h => h.mono (Nat.le_of_lt (Nat.lt_succ_of_lt HZ1.out)))
          · exact ((HROW.out.bits.set4 (Nat.lt_succ_of_lt HZ1.out) _ _ _ _ (fun _ _ _ _ _ _ h => h)).mono (Nat.le_of_lt (Nat.lt_succ_of_lt HZ1.out)))
end Go.Proofs.YtcbaipnphepbeaaGreatDoor
