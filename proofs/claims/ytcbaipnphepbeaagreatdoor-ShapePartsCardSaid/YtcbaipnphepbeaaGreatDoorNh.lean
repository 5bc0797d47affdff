/- Rows of ints, and contracts of package shape: IsType, size, Size, Same. Contract of fluxionref01.Text. Contracts of packages shape and fluxionref03: Size, Same, IsType, Text of types. Contracts of package fluxionref03: IsType; of shape and fluxionref03: Text of types. Contracts of fluxionref01: Digits, Decimal, Parse. -/
import Derived.Test.YtcbaipnphepbeaaGreatDoorNd
import Derived.Test.YtcbaipnphepbeaaGreatDoorNa
import Derived.Test.YtcbaipnphepbeaaGreatDoorNe
import Derived.Test.YtcbaipnphepbeaaGreatDoorShelf
import Derived.Test.YtcbaipnphepbeaaGreatDoorNf
import Derived.Deep.QuietTactic
import Derived.BigQuiet
import Derived.Test.YtcbaipnphepbeaaGreatDoorNg
namespace Go.Proofs.YtcbaipnphepbeaaGreatDoor
open Go.RowKit

def ivs (ds : List Int) : List Value := ds.map (.int .i64)
theorem ivs_get (ds : List Int) (j : Nat) (h : j < ds.length) : (ivs ds)[j]? = some (.int .i64 (ds.getD j 0)) := by
  simp [ivs, List.getD_eq_getElem?_getD, List.getElem?_eq_getElem h]
/-- A slice that reads as a list of ints. -/
def IV (w : World) (v : Value) (ds : List Int) : Prop := ∃ A c, v = .slice A ds.length c ∧ ds.length ≤ c ∧ ds.length ≤ 1073741824 ∧ (∀ ad, A = some ad → ad.spot = none) ∧ Rd w A (ivs ds)
theorem IV.ext {w w' : World} {v : Value} {ds : List Int} (h : IV w v ds) (e : Ext w w') : IV w' v ds := by
  obtain ⟨A, c, h1, h2, h3, h5, h4⟩ := h
  exact ⟨A, c, h1, h2, h3, h5, fun j v hj => let ⟨ad, ha, hc⟩ := h4 j v hj; ⟨ad, ha, e.cell hc⟩⟩
theorem IV.at' {w : World} {A : Option Addr} {n c : Nat} {ds : List Int} (h : IV w (.slice A n c) ds) (j : Nat) (hj : j < ds.length) : ∃ ad, A = some ad ∧ w.cell? (ad.add j) = some (.int .i64 (ds.getD j 0)) := by
  obtain ⟨A', c', e, _, _, _, h4⟩ := h
  injection e with e1 e2 e3
  subst e1
  exact h4 j _ (ivs_get ds j hj)
theorem IV.form {w : World} {v : Value} {ds : List Int} (h : IV w v ds) : ∃ A c, v = .slice A ds.length c ∧ ds.length ≤ c := let ⟨A, c, h1, h2, _⟩ := h; ⟨A, c, h1, h2⟩
/-- Is an int no size of an array? -/
def badd (n : Int) : Bool := decide (n < 1) || decide (8 < n)
theorem istype1_calls {w : World} {n : Int} :
    Calls Tryz.prog 86 #[.int .i64 n] w fun e w' => e = .returned (.bool (badd n)) ∧ w = w' := by
  unfold badd
  by_cases h1 : n < 1
  · have hd : decide (n < 1) = true := decide_eq_true h1
    rw [hd]
    go_enter Tryz.func86, Tryz.ntmps86
    go_wp2
    go_ret
    exact ⟨rfl, rfl⟩
  · have hd : decide (n < 1) = false := decide_eq_false h1
    rw [hd]
    go_enter Tryz.func86, Tryz.ntmps86
    go_wp2
    go_ret
    exact ⟨rfl, rfl⟩
/-- IndexFunc over ints. -/
theorem indexInt_calls {w : World} {F : FuncId} {v : Value} {ds : List Int} {p : Int → Bool} (hC : ∀ args w, Sem.run Tryz.prog (callFunc F args) w = .ok (.enter F args) w) (h : IV w v ds)
    (hF : ∀ n, Calls Tryz.prog F #[.int .i64 n] w fun e w' => e = .returned (.bool (p n)) ∧ w = w') :
    Calls Tryz.prog 125 #[v, .func (.func F) #[] #[]] w fun e w' => (∃ r : Int, e = .returned (.int .i64 r) ∧ decide (0 ≤ r) = ds.any p) ∧ w = w' := by
  obtain ⟨A, c, rfl, hc, hl, _, hr⟩ := id h
  have H := Aside.mk h
  have HF := Aside.mk hF
  clear h hF hr
  obtain ⟨n, hn⟩ : ∃ n, ds.length = n := ⟨_, rfl⟩
  have HN := Aside.mk hn
  rw [hn] at hc hl H ⊢
  clear hn
  go_enter Tryz.func125, Tryz.ntmps125
  go_wp2
  go_loop [8] (fun i => ∃ k : Nat, k ≤ n ∧ i = .int .i64 (k : Int) ∧ Aside ((ds.take k).any p = false)) (fun i => n - (intOf i).toNat)
  case atStart => exact ⟨0, by omega, rfl, ⟨by simp⟩⟩
  case round =>
    obtain ⟨k, hk, rfl, HP⟩ := hrel
    by_cases hlt : k < n
    · obtain ⟨ad, rfl, hcell⟩ := H.out.at' k (by rw [HN.out]; exact hlt)
      obtain ⟨x, hx⟩ : ∃ x, ds.getD k 0 = x := ⟨_, rfl⟩
      rw [hx] at hcell
      have hget : ds[k]? = some x := by
        rw [← hx, List.getD_eq_getElem?_getD, List.getElem?_eq_getElem (by rw [HN.out]; exact hlt)]; rfl
      have HG := Aside.mk hget
      obtain ⟨b, hb⟩ : ∃ b, p x = b := ⟨_, rfl⟩
      have HB := Aside.mk hb
      clear hx hget hb
      cases b
      · have HP2 : Aside ((ds.take (k + 1)).any p = false) := ⟨by rw [List.take_add_one, HG.out, List.any_append, HP.out]; simp [HB.out]⟩
        go_wp2_with (with_reducible refine (HF.out x).mono ?_; rw [HB.out]; rintro e w2 ⟨rfl, rfl⟩)
        go_round
        case rel => exact ⟨k + 1, by omega, by go_num, HP2⟩
        case measure => simp [intOf]; omega
      · have HT : Aside (ds.any p = true) := ⟨List.any_eq_true.2 ⟨x, List.mem_of_getElem? HG.out, HB.out⟩⟩
        go_wp2_with (with_reducible refine (HF.out x).mono ?_; rw [HB.out]; rintro e w2 ⟨rfl, rfl⟩)
        go_ret
        exact ⟨⟨_, rfl, by rw [HT.out]; simp⟩, rfl⟩
    · have hkn : k = n := by omega
      have HT : Aside (ds.any p = false) := ⟨by have := HP.out; rw [hkn, ← HN.out, List.take_length] at this; exact this⟩
      go_wp2
      go_ret
      exact ⟨⟨_, rfl, by rw [HT.out]; rfl⟩, rfl⟩
theorem hasBad_calls {w : World} {v : Value} {ds : List Int} {b : Bool} (h : IV w v ds) (hb : ds.any badd = b) :
    Calls Tryz.prog 85 #[v, .func (.func 86) #[] #[]] w fun e w' => e = .returned (.bool b) ∧ w = w' := by
  have H := Aside.mk h
  obtain ⟨A, c, rfl, _⟩ := h.form
  have HB := Aside.mk hb
  clear h hb
  go_enter Tryz.func85, Tryz.ntmps85
  go_wp2_with (go_at_call 125; refine (indexInt_calls (p := badd) (by intro args w; simp [go_sem]) H.out (fun n => istype1_calls)).mono ?_; rintro e w' ⟨⟨r, rfl, hr⟩, rfl⟩)
  go_ret
  exact ⟨by rw [← HB.out, ← hr]; rfl, rfl⟩
/-- A type: its kind and its sizes. -/
def TV (w : World) (v : Value) (k : Int) (ds : List Int) : Prop := ∃ x, v = .agg #[.int .i64 k, x] ∧ IV w x ds
theorem TV.ext {w w' : World} {v : Value} {k : Int} {ds : List Int} (h : TV w v k ds) (e : Ext w w') : TV w' v k ds := let ⟨x, e1, h⟩ := h; ⟨x, e1, h.ext e⟩
theorem int_le3 (n : Nat) : decide ((n : Int) ≤ 3) = decide (n ≤ 3) := by
  rw [decide_eq_decide]; omega
theorem int_is1 (n : Nat) : ((n : Int) == 1) = decide (n = 1) := by
  by_cases h : n = 1
  · simp [h]
  · rw [decide_eq_false h]; exact beq_eq_false_iff_ne.2 (by omega)
def tyOk (k : Int) (ds : List Int) : Bool := !(ds.any badd) && (if k = 1 ∨ k = 2 then decide (ds.length ≤ 3) else if k = 3 then decide (ds.length = 1) else false)
/-- What Size returns: the size and the error. -/
def sizeR (k : Int) (ds : List Int) : Int × Int := if tyOk k ds then (if k = 3 then (0, 12) else (ds.foldl (fun a d => a * d) 1, 0)) else (0, 5)
set_option maxHeartbeats 1000000 in
theorem isType_calls {w : World} {v : Value} {k : Int} {ds : List Int} {t : Bool} (h : TV w v k ds) (ht : tyOk k ds = t) :
    Calls Tryz.prog 34 #[v] w fun e w' => e = .returned (.bool t) ∧ Ext w w' := by
  obtain ⟨x, rfl, hi⟩ := h
  have HI := Aside.mk hi
  obtain ⟨b, hb⟩ : ∃ b, ds.any badd = b := ⟨_, rfl⟩
  have HB := Aside.mk hb
  unfold tyOk at ht
  rw [hb] at ht
  obtain ⟨A, c, rfl, hc, hl, _, _⟩ := hi
  obtain ⟨n, hn⟩ : ∃ n, ds.length = n := ⟨_, rfl⟩
  rw [hn] at hc hl HI ht ⊢
  clear hb hn
  by_cases h1 : k = 1
  · have hk1 : (k == 1) = true := by simp [h1]
    have HT : Aside (t = (!b && decide (n ≤ 3))) := ⟨by rw [← ht, if_pos (.inl h1)]⟩
    clear ht h1
    cases b
    · go_enter Tryz.func34, Tryz.ntmps34
      go_wp2_with (go_at_call 85; with_reducible refine (hasBad_calls (HI.out.ext ((Ext.refl w).alloc _)) HB.out).mono ?_; rintro e w1 ⟨rfl, rfl⟩)
      go_ret
      exact ⟨by rw [HT.out]; simp [int_le3], (Ext.refl w).alloc _⟩
    · go_enter Tryz.func34, Tryz.ntmps34
      go_wp2_with (go_at_call 85; with_reducible refine (hasBad_calls (HI.out.ext ((Ext.refl w).alloc _)) HB.out).mono ?_; rintro e w1 ⟨rfl, rfl⟩)
      go_ret
      exact ⟨by rw [HT.out]; rfl, (Ext.refl w).alloc _⟩
  · have hk1 : (k == 1) = false := beq_eq_false_iff_ne.2 h1
    by_cases h2 : k = 2
    · have hk2 : (k == 2) = true := by simp [h2]
      have HT : Aside (t = (!b && decide (n ≤ 3))) := ⟨by rw [← ht, if_pos (.inr h2)]⟩
      clear ht h1 h2
      cases b
      · go_enter Tryz.func34, Tryz.ntmps34
        go_wp2_with (go_at_call 85; with_reducible refine (hasBad_calls (HI.out.ext ((Ext.refl w).alloc _)) HB.out).mono ?_; rintro e w1 ⟨rfl, rfl⟩)
        go_ret
        exact ⟨by rw [HT.out]; simp [int_le3], (Ext.refl w).alloc _⟩
      · go_enter Tryz.func34, Tryz.ntmps34
        go_wp2_with (go_at_call 85; with_reducible refine (hasBad_calls (HI.out.ext ((Ext.refl w).alloc _)) HB.out).mono ?_; rintro e w1 ⟨rfl, rfl⟩)
        go_ret
        exact ⟨by rw [HT.out]; rfl, (Ext.refl w).alloc _⟩
    · have hk2 : (k == 2) = false := beq_eq_false_iff_ne.2 h2
      by_cases h3 : k = 3
      · have hk3 : (k == 3) = true := by simp [h3]
        have HT : Aside (t = (!b && decide (n = 1))) := ⟨by rw [← ht, if_neg (by omega), if_pos h3]⟩
        clear ht h1 h2 h3
        cases b
        · go_enter Tryz.func34, Tryz.ntmps34
          go_wp2_with (go_at_call 85; with_reducible refine (hasBad_calls (HI.out.ext ((Ext.refl w).alloc _)) HB.out).mono ?_; rintro e w1 ⟨rfl, rfl⟩)
          go_ret
          exact ⟨by rw [HT.out]; simp [int_is1], (Ext.refl w).alloc _⟩
        · go_enter Tryz.func34, Tryz.ntmps34
          go_wp2_with (go_at_call 85; with_reducible refine (hasBad_calls (HI.out.ext ((Ext.refl w).alloc _)) HB.out).mono ?_; rintro e w1 ⟨rfl, rfl⟩)
          go_ret
          exact ⟨by rw [HT.out]; rfl, (Ext.refl w).alloc _⟩
      · have hk3 : (k == 3) = false := beq_eq_false_iff_ne.2 h3
        have HT : Aside (t = false) := ⟨by rw [← ht, if_neg (by omega), if_neg h3, Bool.and_false]⟩
        clear ht h1 h2 h3
        go_enter Tryz.func34, Tryz.ntmps34
        go_wp2_with (go_at_call 85; with_reducible refine (hasBad_calls (HI.out.ext ((Ext.refl w).alloc _)) HB.out).mono ?_; rintro e w1 ⟨rfl, rfl⟩)
        go_ret
        exact ⟨by rw [HT.out]; rfl, (Ext.refl w).alloc _⟩

/-- The product of sizes. -/
def prodI (ds : List Int) : Int := ds.foldl (fun a d => a * d) 1
theorem prodI_snoc (ds : List Int) (d : Int) : prodI (ds ++ [d]) = prodI ds * d := by simp [prodI]
/-- Sizes of a type: at most three, each from 1 to 8. -/
def Dims (ds : List Int) : Prop := ds.length ≤ 3 ∧ ∀ d ∈ ds, 1 ≤ d ∧ d ≤ 8
theorem prodI_pos : ∀ (n : Nat) (ds : List Int), ds.length = n → (∀ d ∈ ds, 1 ≤ d ∧ d ≤ 8) → 1 ≤ prodI ds ∧ prodI ds ≤ 8 ^ n
  | 0, ds, h, _ => by rw [List.eq_nil_of_length_eq_zero h]; exact ⟨by decide, by decide⟩
  | n + 1, ds, h, hd => by
    obtain ⟨xs, x, rfl⟩ : ∃ xs x, ds = xs ++ [x] := ⟨ds.dropLast, ds.getLast (by intro e; rw [e] at h; simp at h), (List.dropLast_concat_getLast _).symm⟩
    have hl : xs.length = n := by simpa using h
    have h1 := prodI_pos n xs hl fun d hm => hd d (List.mem_append_left _ hm)
    have h2 := hd x (by simp)
    rw [prodI_snoc]
    have e1 : prodI xs * 1 ≤ prodI xs * x := Int.mul_le_mul_of_nonneg_left h2.1 (by omega)
    have e2 : prodI xs * x ≤ prodI xs * 8 := Int.mul_le_mul_of_nonneg_left h2.2 (by omega)
    rw [Int.pow_succ]
    omega
theorem Dims.take {ds : List Int} (h : Dims ds) (k : Nat) : Dims (ds.take k) := ⟨Nat.le_trans (List.length_take_le' _ _) h.1, fun d hm => h.2 d (List.mem_of_mem_take hm)⟩
theorem Dims.prod {ds : List Int} (h : Dims ds) : 1 ≤ prodI ds ∧ prodI ds ≤ 512 := by
  have h1 := prodI_pos ds.length ds rfl h.2
  refine ⟨h1.1, Int.le_trans h1.2 ?_⟩
  have := h.1
  rcases (show ds.length = 0 ∨ ds.length = 1 ∨ ds.length = 2 ∨ ds.length = 3 by omega) with e | e | e | e <;> rw [e] <;> decide
theorem Dims.get {ds : List Int} (h : Dims ds) {k : Nat} (hk : k < ds.length) : 1 ≤ ds.getD k 0 ∧ ds.getD k 0 ≤ 8 := by
  rw [List.getD_eq_getElem?_getD, List.getElem?_eq_getElem hk, Option.getD_some]
  exact h.2 _ (List.getElem_mem hk)
theorem take_succ_int (ds : List Int) (k : Nat) (hk : k < ds.length) : ds.take (k + 1) = ds.take k ++ [ds.getD k 0] := by
  rw [List.take_add_one, List.getElem?_eq_getElem hk, List.getD_eq_getElem?_getD, List.getElem?_eq_getElem hk]; rfl
theorem wrap64_id {x : Int} (h1 : -9223372036854775808 ≤ x) (h2 : x ≤ 9223372036854775807) : wrap64 x = x := by unfold wrap64; omega
set_option maxHeartbeats 1000000 in
theorem shSize_calls {w : World} {v : Value} {k : Int} {ds : List Int} (h : TV w v k ds) (hd : Dims ds) :
    Calls Tryz.prog 58 #[v] w fun e w' => e = .returned (.int .i64 (prodI ds)) ∧ Ext w w' := by
  obtain ⟨x, rfl, hi⟩ := h
  have HI := Aside.mk hi
  have HD := Aside.mk hd
  have hd3 := hd.1
  obtain ⟨A, c, rfl, hc, _, _, _⟩ := hi
  obtain ⟨n, hn⟩ : ∃ n, ds.length = n := ⟨_, rfl⟩
  have HN := Aside.mk hn
  rw [hn] at hc HI hd3 ⊢
  clear hd hn
  go_enter Tryz.func58, Tryz.ntmps58
  go_wp2
  go_loop [3, 9] (fun m i => ∃ j : Nat, j ≤ n ∧ i = .int .i64 (j : Int) ∧ m = .int .i64 (prodI (ds.take j))) (fun _ i => n - (intOf i).toNat)
  case atStart => exact ⟨0, by omega, rfl, by simp [prodI]⟩
  case round =>
    obtain ⟨j, hj, rfl, rfl⟩ := hrel
    by_cases hlt : j < n
    · have hp := (HD.out.take j).prod
      have hp2 := (HD.out.take (j + 1)).prod
      have hx := HD.out.get (k := j) (by rw [HN.out]; exact hlt)
      have hs : prodI (ds.take (j + 1)) = prodI (ds.take j) * ds.getD j 0 := by rw [take_succ_int _ _ (by rw [HN.out]; exact hlt), prodI_snoc]
      obtain ⟨ad, rfl, hcell⟩ := (HI.out.ext ((Ext.refl w).alloc (.cells #[.int .i64 k, .slice A n c] 25))).at' j (by rw [HN.out]; exact hlt)
      obtain ⟨d, hdd⟩ : ∃ d, ds.getD j 0 = d := ⟨_, rfl⟩
      obtain ⟨p, hpp⟩ : ∃ p, prodI (ds.take j) = p := ⟨_, rfl⟩
      obtain ⟨p2, hp2'⟩ : ∃ p, prodI (ds.take (j + 1)) = p := ⟨_, rfl⟩
      rw [hdd] at hcell hx hs
      rw [hpp] at hp hs ⊢
      rw [hp2'] at hp2 hs
      have hmul : IntKind.i64.wrap (p * d) = p2 := by rw [← hs]; exact wrap_i64 _ (by omega) (by omega)
      have hmul2 : wrap64 (p * d) = p2 := by rw [← hs]; exact wrap64_id (by omega) (by omega)
      have HP2 := Aside.mk hp2'
      clear hdd hpp hp2' hs
      go_wp2
      go_round
      case rel => exact ⟨j + 1, by omega, by go_num, by rw [HP2.out]⟩
      case measure => simp [intOf]; omega
    · have hjn : j = n := by omega
      have HT : Aside (prodI (ds.take j) = prodI ds) := ⟨by rw [hjn, ← HN.out, List.take_length]⟩
      rw [HT.out]
      go_wp2
      go_ret
      exact ⟨rfl, (Ext.refl w).alloc _⟩
set_option maxHeartbeats 1000000 in
theorem rSize_calls {w : World} {v : Value} {k : Int} {ds : List Int} (h : TV w v k ds) (hd : Dims ds) :
    Calls Tryz.prog 40 #[v] w fun e w' => e = .returned (.int .i64 (prodI ds)) ∧ Ext w w' := by
  obtain ⟨x, rfl, hi⟩ := h
  have HI := Aside.mk hi
  have HD := Aside.mk hd
  have hd3 := hd.1
  obtain ⟨A, c, rfl, hc, _, _, _⟩ := hi
  obtain ⟨n, hn⟩ : ∃ n, ds.length = n := ⟨_, rfl⟩
  have HN := Aside.mk hn
  rw [hn] at hc HI hd3 ⊢
  clear hd hn
  go_enter Tryz.func40, Tryz.ntmps40
  go_wp2
  go_loop [3, 4] (fun m i => ∃ j : Nat, j ≤ n ∧ i = .int .i64 (j : Int) ∧ m = .int .i64 (prodI (ds.take j))) (fun _ i => n - (intOf i).toNat)
  case atStart => exact ⟨0, by omega, rfl, by simp [prodI]⟩
  case round =>
    obtain ⟨j, hj, rfl, rfl⟩ := hrel
    by_cases hlt : j < n
    · have hp := (HD.out.take j).prod
      have hp2 := (HD.out.take (j + 1)).prod
      have hx := HD.out.get (k := j) (by rw [HN.out]; exact hlt)
      have hs : prodI (ds.take (j + 1)) = prodI (ds.take j) * ds.getD j 0 := by rw [take_succ_int _ _ (by rw [HN.out]; exact hlt), prodI_snoc]
      obtain ⟨ad, rfl, hcell⟩ := (HI.out.ext ((Ext.refl w).alloc (.cells #[.int .i64 k, .slice A n c] 25))).at' j (by rw [HN.out]; exact hlt)
      obtain ⟨d, hdd⟩ : ∃ d, ds.getD j 0 = d := ⟨_, rfl⟩
      obtain ⟨p, hpp⟩ : ∃ p, prodI (ds.take j) = p := ⟨_, rfl⟩
      obtain ⟨p2, hp2'⟩ : ∃ p, prodI (ds.take (j + 1)) = p := ⟨_, rfl⟩
      rw [hdd] at hcell hx hs
      rw [hpp] at hp hs ⊢
      rw [hp2'] at hp2 hs
      have hmul : IntKind.i64.wrap (p * d) = p2 := by rw [← hs]; exact wrap_i64 _ (by omega) (by omega)
      have hmul2 : wrap64 (p * d) = p2 := by rw [← hs]; exact wrap64_id (by omega) (by omega)
      have HP2 := Aside.mk hp2'
      clear hdd hpp hp2' hs
      go_wp2
      go_round
      case rel => exact ⟨j + 1, by omega, by go_num, by rw [HP2.out]⟩
      case measure => simp [intOf]; omega
    · have hjn : j = n := by omega
      have HT : Aside (prodI (ds.take j) = prodI ds) := ⟨by rw [hjn, ← HN.out, List.take_length]⟩
      rw [HT.out]
      go_wp2
      go_ret
      exact ⟨rfl, (Ext.refl w).alloc _⟩
end Go.Proofs.YtcbaipnphepbeaaGreatDoor

namespace Go.Proofs.YtcbaipnphepbeaaGreatDoor
open Go.RowKit

/-- Rows of digits and rows of bytes lie in different blocks. -/
theorem Apart.types {W : World} {b b' : Nat} {x out : Value} {xs zs : List Nat} (HO : OV b W x xs) (HB : OB b' W out zs) : Apart x out := by
  rcases HO.2.2 with ⟨h, _⟩ | ⟨g, cap, cur, h, _, hg, _⟩
  · exact .inl (by subst h; rfl)
  · refine .inr fun e => ?_
    subst h
    rcases HB.2.2 with ⟨k, _⟩ | ⟨g', cap', cur', k, _, hg', _⟩
    · subst k; cases e
    · subst k
      injection e with e
      have e : g = g' := e
      subst e
      rw [hg] at hg'
      injection hg' with h1
      injection h1 with _ h2 _
      exact absurd h2 (by decide)
theorem OB.store_else {b g j : Nat} {w : World} {v : Value} {xs : List Nat} (h : OB b w v xs) (hp : v.ownBlock ≠ some g) (u : Value) : OB b (w.setCell ⟨g, j, none⟩ u) v xs := by
  refine ⟨h.1, h.2.1, ?_⟩
  rcases h.2.2 with h' | ⟨g', cap, cur, h1, h2, h3, h4⟩
  · exact .inl h'
  · refine .inr ⟨g', cap, cur, h1, h2, (Below.heap_setCell _ _ _ _ ?_).trans h3, h4⟩
    subst h1
    intro e
    exact hp (congrArg some e)
theorem text1_down {k z : Nat} (h : k < 10 ^ (5120 - z)) (hk : 0 < k) : z < 5120 ∧ k / 10 < 10 ^ (5120 - (z + 1)) := by
  have hz : z < 5120 := by
    rcases Nat.lt_or_ge z 5120 with h' | h'
    · exact h'
    · rw [Nat.sub_eq_zero_of_le h'] at h
      simp at h; omega
  refine ⟨hz, ?_⟩
  obtain ⟨m, hm⟩ : ∃ m, 5120 - z = m + 1 := ⟨5120 - z - 1, by omega⟩
  rw [hm, Nat.pow_succ] at h
  rw [show 5120 - (z + 1) = m from by omega]
  omega
theorem text1_step {zs ds : List Nat} {k r : Nat} (h : ds = zs ++ d10 k) (hk : 0 < k) (hr : k % 10 = r) : ds = (zs ++ [r]) ++ d10 (k / 10) := by
  rw [h, d10_pos (by omega), hr]; simp
theorem text1_div {q r k : Nat} (h : k = q * 10 + r) (hr : r < 10) : q = k / 10 ∧ r = k % 10 := by omega
theorem short_drop {xs zs : List Nat} {k cr x q t : Nat} (hx : xs.getD k 0 = x) (hk : k < xs.length) (hkz : k < zs.length) (hS : val (xs.drop (k + 1)) = val (zs.drop (k + 1)) * 10 + cr) (hq : cr * 4294967296 + x = q * 10 + t) :
    val (xs.drop k) = val ((zs.set k q).drop k) * 10 + t := by
  rw [val_drop xs k hk, val_drop (zs.set k q) k (by simpa using hkz), hx, hS, drop_set_self, getD_set_self hkz]
  rw [Nat.add_mul, Nat.mul_add, ← Nat.mul_assoc]
  omega

set_option maxHeartbeats 2000000 in
theorem rText_calls {w : World} {u : Value} {a : Nat} (h : NV w u a) :
    Calls Tryz.prog 88 #[u] w fun e w' => e = .returned (.string ⟨(dtext a).toArray⟩) ∧ Ext w w' := by
  obtain ⟨h, h5⟩ := h
  obtain ⟨A, c, rfl, hc, hd, hr⟩ := id h
  have H := Aside.mk h
  have H5 := Aside.mk h5
  rcases Nat.eq_zero_or_pos a with rfl | ha
  · have h0 : (dig 0).length = 0 := by rw [dig_zero]; rfl
    clear hr hd h
    rw [h0] at hc H ⊢
    have HT : Aside (dtext 0 = [48]) := ⟨by simp [dtext]⟩
    rw [HT.out]
    go_enter Tryz.func88, Tryz.ntmps88
    go_wp2
    go_ret
    exact ⟨rfl, Ext.refl w⟩
  · have hln : 0 < (dig a).length := by
      have : dig a ≠ [] := fun e => by have := dig_nil_iff.1 e; omega
      exact List.length_pos_iff.2 this
    obtain ⟨n, hn⟩ : ∃ n, (dig a).length = n := ⟨_, rfl⟩
    have HA := Aside.mk ha
    have HN := Aside.mk hn
    rw [hn] at hc h5 hln H ⊢
    have hnz : ((n : Int) == 0) = false := by simp; omega
    clear hr hd h hn ha
    go_enter Tryz.func88, Tryz.ntmps88
    go_wp2_with (at_builtin; refine copy_rv rfl _ _ rfl _ (dig a) H.out rfl rfl ?_; intro v1 w1 hv he; have HR := Aside.mk hv; have HB0 := Aside.mk he; have hrf := hv.form; clear hv he)
    obtain ⟨A1, c1, rfl, _⟩ := hrf
    go_loopg [3, 4] a (fun k out x wr => ∃ A n c zs, x = .slice A n c ∧ n ≤ 512 ∧ Aside (n = (dig k).length) ∧ Aside (OV w.heap.size wr (.slice A n c) (dig k)) ∧ Aside (OB w.heap.size wr out (chs zs)) ∧ Aside (Ext w wr) ∧ Aside (d10 a = zs ++ d10 k) ∧ Aside (k < 10 ^ (5120 - zs.length)))
    case atStart => exact ⟨_, _, _, [], rfl, by rw [HN.out]; exact h5, ⟨rfl⟩, HR, ⟨OB.nil _ _⟩, HB0, ⟨rfl⟩, ⟨pow10_any (lt_of_dig_length H5.out) (by decide)⟩⟩
    case round =>
      obtain ⟨A2, n2, c2, zs, rfl, hn2, HN2, HX, HO, HB, HD, HK⟩ := hrel
      have hD10 : D10 zs := fun x hx => d10_lt a x (by rw [HD.out]; exact List.mem_append_left _ hx)
      rcases Nat.eq_zero_or_pos n2 with rfl | hn0
      · have hkz : gk = 0 := dig_nil_iff.1 (List.eq_nil_of_length_eq_zero HN2.out.symm)
        have HZ : Aside (d10 a = zs) := ⟨by rw [HD.out, hkz, d10_zero, List.append_nil]⟩
        have HT : Aside (dtext a = (chs zs).reverse.map UInt8.ofNat) := ⟨by rw [← HZ.out]; exact chs_text (by have := HA.out; omega)⟩
        have hz0 : 0 < zs.length := by
          rcases Nat.eq_zero_or_pos zs.length with h | h
          · have h2 := HZ.out
            rw [List.eq_nil_of_length_eq_zero h] at h2
            have := d10_nil_iff.1 h2; have := HA.out; omega
          · exact h
        have hz1 : zs.length ≤ 1073741824 := by have := HO.out.1.1; rwa [chs_length] at this
        obtain ⟨g, c5, rfl, hbg, _, _, _⟩ := HO.out.row (by rw [chs_length]; exact hz0)
        rw [chs_length] at HO ⊢
        obtain ⟨zl, hzl'⟩ : ∃ l, zs.length = l := ⟨_, rfl⟩
        have HZL : Aside ((chs zs).length = zl) := ⟨by rw [chs_length]; exact hzl'⟩
        rw [hzl'] at HO hz1 ⊢
        clear hkz hz0 hzl' hD10
        go_wp2
        go_loopw [8] (fun i wr' => ∃ (k : Nat) (ys : List Nat), k ≤ zl / 2 ∧ i = .int .i64 (k : Int) ∧ Aside (OB w.heap.size wr' (.slice (some ⟨g, 0, none⟩) zl c5) ys) ∧ Aside (Ext w wr') ∧ Aside (RevAt (chs zs) ys k)) (fun i _ => zl / 2 - (intOf i).toNat)
        case atStart => exact ⟨0, _, by omega, rfl, HO, HB, ⟨RevAt.init _⟩⟩
        case round =>
          obtain ⟨k, ys, hk, rfl, HZ2, HB2, HR2⟩ := hrel
          by_cases hlt : k < zl / 2
          · obtain ⟨n, hn⟩ : ∃ n, n + k + 1 = zl := ⟨zl - 1 - k, by omega⟩
            have hidx : (zl : Int) - 1 - (k : Int) = (n : Int) := by omega
            have hkn : k < n := by omega
            have HKN : Aside (n + k + 1 = (chs zs).length) := ⟨by rw [HZL.out, hn]⟩
            have HYL : Aside (ys.length = zl) := ⟨by rw [HR2.out.len, HZL.out]⟩
            have hnz : n < zl := by omega
            have hkz2 : k < zl := by omega
            have hzc := HZ2.out.cell k (by rw [HYL.out]; omega)
            have hzf := HZ2.out.free k
            have hzc' := HZ2.out.cell n (by rw [HYL.out]; omega)
            have hzf' := HZ2.out.free n
            obtain ⟨x, hx⟩ : ∃ x, ys.getD k 0 = x := ⟨_, rfl⟩
            obtain ⟨y, hy⟩ : ∃ y, ys.getD n 0 = y := ⟨_, rfl⟩
            rw [hx] at hzc
            rw [hy] at hzc'
            have HX := Aside.mk hx
            have HY := Aside.mk hy
            have hltI : (k : Int) < (zl : Int) / 2 := by omega
            clear hx hy hn
            go_wp2
            go_roundw
            case rel =>
              have hx8 : x < 256 := by rw [← HX.out]; exact HZ2.out.1.2 _ (by rw [List.getD_eq_getElem?_getD, List.getElem?_eq_getElem (by rw [HYL.out]; omega)]; exact List.getElem_mem _)
              have hy8 : y < 256 := by rw [← HY.out]; exact HZ2.out.1.2 _ (by rw [List.getD_eq_getElem?_getD, List.getElem?_eq_getElem (by rw [HYL.out]; omega)]; exact List.getElem_mem _)
              have hst := HR2.out.step hkn HKN.out
              rw [HX.out, HY.out] at hst
              exact ⟨k + 1, (ys.set k y).set n x, by omega, by go_num, ⟨(HZ2.out.store k hy8).store n hx8⟩, ⟨(HB2.out.set hbg _).set hbg _⟩, ⟨hst⟩⟩
            case measure => simp [intOf]; omega
          · have HYS : Aside (ys = (chs zs).reverse) := ⟨HR2.out.done (by rw [HZL.out]; omega)⟩
            have hcv := HZ2.out.text (dtext a) (by rw [HYS.out]; exact HT.out)
            have hltI : ¬ (k : Int) < (zl : Int) / 2 := by omega
            go_wp2
            go_ret
            exact ⟨rfl, HB2.out⟩
      · have hkp : 0 < gk := by
          rcases Nat.eq_zero_or_pos gk with h | h
          · exfalso
            have := HN2.out
            rw [h, dig_zero] at this; simp at this; omega
          · exact h
        obtain ⟨hz5, hkd⟩ := text1_down HK.out hkp
        have HKD := Aside.mk hkd
        have HKP := Aside.mk hkp
        have HD10 := Aside.mk hD10
        obtain ⟨A5, c5, rfl, _⟩ := HO.out.form
        rw [chs_length] at HO ⊢
        have HZ5 := Aside.mk hz5
        have hzl : zs.length ≤ 5119 := by omega
        obtain ⟨zl, hzl'⟩ : ∃ l, zs.length = l := ⟨_, rfl⟩
        have HZL := Aside.mk hzl'
        rw [hzl'] at HO hzl ⊢
        clear hkd hkp hz5 hD10 hzl'
        have hds := HX.out.1.ds
        have HDS := Aside.mk hds
        clear hds
        go_wp2
        go_loopw [5, 6] (fun r i wr' => ∃ (j cc : Nat) (ys : List Nat), j ≤ n2 ∧ i = .int .i64 ((j : Int) - 1) ∧ r = .int .u64 (cc : Int) ∧ cc ≤ 9 ∧ Aside (OV w.heap.size wr' (.slice A2 n2 c2) ys) ∧ Aside (OB w.heap.size wr' (.slice A5 zl c5) (chs zs)) ∧ Aside (Ext w wr') ∧ Aside (ys.length = n2) ∧ Aside (val ((dig gk).drop j) = val (ys.drop j) * 10 + cc) ∧ Aside (∀ i, i < j → ys.getD i 0 = (dig gk).getD i 0)) (fun _ i _ => (intOf i + 1).toNat)
        case atStart => exact ⟨n2, 0, dig gk, Nat.le_refl _, rfl, rfl, by omega, HX, HO, HB, ⟨HN2.out.symm⟩, ⟨by rw [HN2.out, List.drop_length]; simp [val]⟩, ⟨fun _ _ => rfl⟩⟩
        case round =>
          obtain ⟨j, cc, ys, hj, rfl, rfl, hcc, HX2, HO2, HB2, HL, HS, HG⟩ := hrel
          cases j with
          | succ j =>
            obtain ⟨x, hx⟩ : ∃ x, (dig gk).getD j 0 = x := ⟨_, rfl⟩
            have hyx : ys.getD j 0 = x := by rw [HG.out j (by omega), hx]
            have hx4 : x < 4294967296 := hyx ▸ HX2.out.1.get j
            have hap := Apart.types HX2.out HO2.out
            obtain ⟨g, c', heq, hbg, _, _, hob⟩ := HX2.out.row (by rw [HL.out]; omega)
            injection heq with e1 e2 e3
            subst e1
            have hcell := HX2.out.cell j (by rw [HL.out]; omega)
            have hfree := HX2.out.free j
            rw [hyx] at hcell
            have HAP : Aside ((Value.slice A5 zl c5).ownBlock ≠ some g) := ⟨by
              rcases hap with hap | hap
              · cases hap
              · exact fun e => hap e.symm⟩
            have HXX := Aside.mk hx
            have hor := or_shift32 cc x (by omega) hx4
            obtain ⟨s, hs⟩ : ∃ s, cc * 4294967296 + x = s := ⟨_, rfl⟩
            rw [hs] at hor
            have hs64 : s < 18446744073709551616 := by omega
            obtain ⟨q, hq⟩ : ∃ q, s / 10 = q := ⟨_, rfl⟩
            obtain ⟨t, ht⟩ : ∃ t, s % 10 = t := ⟨_, rfl⟩
            have hdiv : ((s : Int) / 10) = (q : Int) := by omega
            have hmod : ((s : Int) % 10) = (t : Int) := by omega
            have hqb : q < 4294967296 := by omega
            have ht9 : t ≤ 9 := by omega
            have HQ : Aside (cc * 4294967296 + x = q * 10 + t) := ⟨by omega⟩
            clear hq ht hs hap hob e2 e3 hyx hx
            go_wp2
            go_roundw
            case rel =>
              refine ⟨j, t, ys.set j q, by omega, by go_num, by first | rfl | (rw [hmod]), ht9, ⟨HX2.out.store j hqb⟩, ⟨HO2.out.store_else HAP.out _⟩, ⟨HB2.out.set hbg _⟩, ⟨by simp [HL.out]⟩, ⟨short_drop HXX.out (by rw [← HN2.out]; omega) (by rw [HL.out]; omega) HS.out HQ.out⟩, ⟨?_⟩⟩
              intro i hi
              rw [getD_set_ne (by omega)]
              exact HG.out i (by omega)
            case measure => simp [intOf]
          | zero =>
            have HE : Aside (val ys = gk / 10 ∧ cc = gk % 10) := ⟨by
              have h := HS.out
              simp only [List.drop_zero, val_dig] at h
              exact text1_div h (by omega)⟩
            go_wp2_with (first | (at_builtin; (refine append_u8 w.heap.size rfl _ _ rfl _ (chs zs) (48 + cc) _ ?hz HO2.out rfl rfl (by omega) HB2.out.size ?hl ?_; (case hz => omega); (case hl => rw [chs_length, HZL.out]; omega); intro z1 w3 hz1 hg1 hb1; have HE4 := Aside.mk (HO2.out.ext_grown HB2.out (Nat.le_refl _) hg1); have HO4 := Aside.mk hz1; have HX4 := Aside.mk (HX2.out.other hg1 (Apart.types HX2.out HO2.out)); clear hz1 hg1 hb1)) | (go_at_call 127; with_reducible refine (rshort_calls HX4.out).mono ?_; rintro e w' ⟨r, rfl, hr, rfl⟩; have HR6 := Aside.mk hr; have hrf6 := hr.form; clear hr))
            rw [HE.out.1] at HR6 hrf6
            obtain ⟨A6, c6, rfl, _⟩ := hrf6
            go_roundg (gk / 10)
            case rel => exact ⟨A6, _, c6, zs ++ [cc], rfl, by rw [← HE.out.1]; exact Nat.le_trans (by rw [HE.out.1]; exact dig_len_mono (Nat.div_le_self _ _)) (by rw [← HN2.out]; exact hn2), ⟨rfl⟩, HR6, ⟨by rw [chs_snoc]; exact HO4.out⟩, HE4, ⟨text1_step HD.out HKP.out HE.out.2.symm⟩, ⟨by rw [List.length_append]; exact HKD.out⟩⟩
            case measure => have := HKP.out; omega
end Go.Proofs.YtcbaipnphepbeaaGreatDoor

namespace Go.Proofs.YtcbaipnphepbeaaGreatDoor
open Go.RowKit

theorem addr_of {ad : Addr} (h : ad.spot = none) (j : Nat) : ad = ⟨ad.block, ad.off, none⟩ ∧ ad.add j = ⟨ad.block, ad.off + j, none⟩ := by
  obtain ⟨b, o, s⟩ := ad
  obtain rfl : s = none := h
  exact ⟨rfl, by simp [Addr.add]⟩
/-- slices.Equal of ints. -/
theorem eqInts {w : World} {u v : Value} {xs ys : List Int} {b : Bool} (hu : IV w u xs) (hv : IV w v ys) (hb : decide (xs = ys) = b) :
    Calls Tryz.prog 84 #[u, v] w fun e w' => e = .returned (.bool b) ∧ Ext w w' := by
  subst hb
  have HU := hu
  have HV := hv
  obtain ⟨A, c, rfl, hc, hl, hs, hr⟩ := hu
  obtain ⟨B, d, rfl, hc', hl', hs', hr'⟩ := hv
  by_cases hlen : xs.length = ys.length
  · rcases Nat.eq_zero_or_pos xs.length with h0 | h0
    · have e1 := List.eq_nil_of_length_eq_zero h0
      have e2 := List.eq_nil_of_length_eq_zero (hlen.symm.trans h0)
      subst e1 e2
      refine (Tryz.slices_Equal_int_empty A B c 0 d w (by decide)).mono ?_
      rintro e w' ⟨rfl, rfl⟩
      exact ⟨by simp, Ext.refl _⟩
    · obtain ⟨ad, rfl, _⟩ := HU.at' 0 h0
      obtain ⟨bd, rfl, _⟩ := HV.at' 0 (by omega)
      have ea := (addr_of (hs ad rfl) 0).1
      have eb := (addr_of (hs' bd rfl) 0).1
      rw [ea, eb]
      refine (Tryz.slices_Equal_int ad.block ad.off xs.length c bd.block bd.off ys.length d xs ys w (Nat.le_refl _) (Nat.le_refl _) (by omega) (by omega) ?_ ?_).mono ?_
      · intro j hj
        obtain ⟨ad', e, h⟩ := HU.at' j hj
        injection e with e
        subst e
        rw [(addr_of (hs ad rfl) j).2] at h
        exact h
      · intro j hj
        obtain ⟨bd', e, h⟩ := HV.at' j hj
        injection e with e
        subst e
        rw [(addr_of (hs' bd rfl) j).2] at h
        exact h
      · rintro e w' ⟨rfl, q, rfl⟩
        refine ⟨?_, Ext.of_drewN ⟨q, rfl⟩⟩
        rw [List.take_length, List.take_length]
        congr 2
        by_cases h : xs = ys
        · simp [h]
        · rw [decide_eq_false h]; exact beq_eq_false_iff_ne.2 h
  · refine (Tryz.slices_Equal_int_lens A B xs.length c ys.length d w hlen).mono ?_
    rintro e w' ⟨rfl, rfl⟩
    exact ⟨by rw [decide_eq_false (fun h => hlen (by rw [h]))], Ext.refl _⟩
/-- Two boxes that hold types. -/
abbrev KTy2 (w : World) (x0 x1 y0 y1 : Value) (w' : World) : Prop := Aside (Ext w w') ∧ w'.cell? ⟨w.heap.size, 0, none⟩ = some x0 ∧ w'.cell? ⟨w.heap.size, 1, none⟩ = some x1 ∧ w'.cell? ⟨w.heap.size + 1, 0, none⟩ = some y0 ∧ w'.cell? ⟨w.heap.size + 1, 1, none⟩ = some y1
theorem KTy2.ext {w w1 w2 : World} {x0 x1 y0 y1 : Value} (e : Ext w1 w2) (h : KTy2 w x0 x1 y0 y1 w1) : KTy2 w x0 x1 y0 y1 w2 := ⟨⟨h.1.out.trans e⟩, e.cell h.2.1, e.cell h.2.2.1, e.cell h.2.2.2.1, e.cell h.2.2.2.2⟩
theorem KTy2.init (w : World) (x0 x1 y0 y1 : Value) (t t' : TypeId) : KTy2 w x0 x1 y0 y1 ((w.alloc (.cells #[x0, x1] t)).alloc (.cells #[y0, y1] t')) :=
  ⟨⟨((Ext.refl w).alloc _).alloc _⟩, cell_old (cell_new rfl rfl), cell_old (cell_new rfl rfl), cell_new (by simp) rfl, cell_new (by simp) rfl⟩
/-- Are two types the same? -/
def tySame (k : Int) (ds : List Int) (k' : Int) (ds' : List Int) : Bool := k == k' && decide (ds = ds')
set_option maxHeartbeats 1000000 in
theorem shSame_calls {w : World} {u v : Value} {k k' : Int} {ds ds' : List Int} {b : Bool} (hu : TV w u k ds) (hv : TV w v k' ds') (hb : tySame k ds k' ds' = b) :
    Calls Tryz.prog 33 #[u, v] w fun e w' => e = .returned (.bool b) ∧ Ext w w' := by
  obtain ⟨x, rfl, hx⟩ := hu
  obtain ⟨y, rfl, hy⟩ := hv
  have HX := Aside.mk hx
  have HY := Aside.mk hy
  obtain ⟨d, hd⟩ : ∃ d, decide (ds = ds') = d := ⟨_, rfl⟩
  have HD := Aside.mk hd
  unfold tySame at hb
  rw [hd] at hb
  have HB := Aside.mk hb
  clear hx hy hd hb
  by_cases h : k = k'
  · have hk : (k == k') = true := by simp [h]
    have HB2 : Aside (b = d) := ⟨by rw [← HB.out, hk]; rfl⟩
    clear h
    go_enter Tryz.func33, Tryz.ntmps33
    go_wp2_with (go_at_call 84; with_reducible refine (eqInts (HX.out.ext (((Ext.refl w).alloc _).alloc _)) (HY.out.ext (((Ext.refl w).alloc _).alloc _)) HD.out).mono ?_; rintro e w1 ⟨rfl, he⟩; have HE := Aside.mk he; clear he)
    go_ret
    exact ⟨by rw [HB2.out]; rfl, (((Ext.refl w).alloc _).alloc _).trans HE.out⟩
  · have hk : (k == k') = false := beq_eq_false_iff_ne.2 h
    have HB2 : Aside (b = false) := ⟨by rw [← HB.out, hk]; rfl⟩
    clear h
    go_enter Tryz.func33, Tryz.ntmps33
    go_wp2_with (go_at_call 84; with_reducible refine (eqInts (HX.out.ext (((Ext.refl w).alloc _).alloc _)) (HY.out.ext (((Ext.refl w).alloc _).alloc _)) HD.out).mono ?_; rintro e w1 ⟨rfl, he⟩; have HE := Aside.mk he; clear he)
    go_ret
    exact ⟨by rw [HB2.out]; rfl, ((Ext.refl w).alloc _).alloc _⟩
/-- A box that holds a type. -/
abbrev KTy (w : World) (x0 x1 : Value) (w' : World) : Prop := Aside (Ext w w') ∧ w'.cell? ⟨w.heap.size, 0, none⟩ = some x0 ∧ w'.cell? ⟨w.heap.size, 1, none⟩ = some x1
theorem KTy.ext {w w1 w2 : World} {x0 x1 : Value} (e : Ext w1 w2) (h : KTy w x0 x1 w1) : KTy w x0 x1 w2 := ⟨⟨h.1.out.trans e⟩, e.cell h.2.1, e.cell h.2.2⟩
theorem KTy.init (w : World) (x0 x1 : Value) (t : TypeId) : KTy w x0 x1 (w.alloc (.cells #[x0, x1] t)) := ⟨⟨(Ext.refl w).alloc _⟩, cell_new rfl rfl, cell_new rfl rfl⟩
theorem tyOk_dims {k : Int} {ds : List Int} (h : tyOk k ds = true) : Dims ds := by
  unfold tyOk at h
  simp only [Bool.and_eq_true, Bool.not_eq_true'] at h
  refine ⟨?_, ?_⟩
  · have h2 := h.2
    split at h2
    · exact of_decide_eq_true h2
    · split at h2
      · have := of_decide_eq_true h2; omega
      · cases h2
  · intro d hd
    have := List.any_eq_false.1 h.1 d hd
    unfold badd at this
    simp at this
    omega
set_option maxHeartbeats 1000000 in
theorem sizeOf_calls {w : World} {v : Value} {k : Int} {ds : List Int} {a e0 : Int} (h : TV w v k ds) (hr : sizeR k ds = (a, e0)) :
    Calls Tryz.prog 37 #[v] w fun e w' => e = .returned (.tuple #[.int .i64 a, .int .i64 e0]) ∧ Ext w w' := by
  have H := Aside.mk h
  obtain ⟨x, rfl, _⟩ := h
  have hk0 := KTy.init w (.int .i64 k) x 25
  obtain ⟨t, ht⟩ : ∃ t, tyOk k ds = t := ⟨_, rfl⟩
  have HT := Aside.mk ht
  unfold sizeR at hr
  rw [ht] at hr
  cases t
  · have HR : Aside (a = 0 ∧ e0 = 5) := ⟨by injection hr with h1 h2; exact ⟨h1.symm, h2.symm⟩⟩
    obtain ⟨rfl, rfl⟩ := HR.out
    have HR : Aside ((0 : Int) = 0) := ⟨rfl⟩
    clear hr ht
    go_enter Tryz.func37, Tryz.ntmps37
    go_wp2_with (go_at_call 34; with_reducible refine (isType_calls (H.out.ext hk0.1.out) HT.out).mono ?_; rintro e w1 ⟨rfl, he⟩; replace hk0 := KTy.ext he hk0; clear he)
    go_ret2
    exact ⟨rfl, hk0.1.out⟩
  · have HD := Aside.mk (tyOk_dims ht)
    by_cases h3 : k = 3
    · have hk3 : (k == 3) = true := by simp [h3]
      obtain ⟨rfl, rfl⟩ : a = 0 ∧ e0 = 12 := by rw [if_pos rfl, if_pos h3] at hr; injection hr with h1 h2; exact ⟨h1.symm, h2.symm⟩
      clear hr ht h3
      go_enter Tryz.func37, Tryz.ntmps37
      go_wp2_with (go_at_call 34; with_reducible refine (isType_calls (H.out.ext hk0.1.out) HT.out).mono ?_; rintro e w1 ⟨rfl, he⟩; replace hk0 := KTy.ext he hk0; clear he)
      go_ret2
      exact ⟨rfl, hk0.1.out⟩
    · have hk3 : (k == 3) = false := beq_eq_false_iff_ne.2 h3
      obtain ⟨rfl, rfl⟩ : a = prodI ds ∧ e0 = 0 := by rw [if_pos rfl, if_neg h3] at hr; injection hr with h1 h2; exact ⟨h1.symm, h2.symm⟩
      clear hr ht h3
      go_enter Tryz.func37, Tryz.ntmps37
      go_wp2_with (first | (go_at_call 34; with_reducible refine (isType_calls (H.out.ext hk0.1.out) HT.out).mono ?_; rintro e w1 ⟨rfl, he⟩; replace hk0 := KTy.ext he hk0; clear he) | (go_at_call 58; with_reducible refine (shSize_calls (H.out.ext hk0.1.out) HD.out).mono ?_; rintro e w2 ⟨rfl, he⟩; replace hk0 := KTy.ext he hk0; clear he))
      go_ret2
      exact ⟨rfl, hk0.1.out⟩
set_option maxHeartbeats 1000000 in
/-- ref03.Same. -/
theorem rSame_calls {w : World} {u v : Value} {k k' : Int} {ds ds' : List Int} {b : Bool} (hu : TV w u k ds) (hv : TV w v k' ds') (hb : tySame k ds k' ds' = b) :
    Calls Tryz.prog 28 #[u, v] w fun e w' => e = .returned (.bool b) ∧ Ext w w' := by
  obtain ⟨x, rfl, hx⟩ := hu
  obtain ⟨y, rfl, hy⟩ := hv
  have HX := Aside.mk hx
  have HY := Aside.mk hy
  unfold tySame at hb
  obtain ⟨A, c, rfl, hc, hl, _, _⟩ := hx
  obtain ⟨B, d, rfl, hc', hl', _, _⟩ := hy
  obtain ⟨n, hn⟩ : ∃ n, ds.length = n := ⟨_, rfl⟩
  obtain ⟨m, hm⟩ : ∃ n, ds'.length = n := ⟨_, rfl⟩
  have HN := Aside.mk hn
  have HM := Aside.mk hm
  rw [hn] at hc hl HX ⊢
  rw [hm] at hc' hl' HY ⊢
  by_cases h : k = k'
  · by_cases hnm : n = m
    · subst hnm
      have HB : Aside (b = decide (ds = ds')) := ⟨by rw [← hb, h]; simp⟩
      have hk : (k == k') = true := by simp [h]
      have hk2 : (k != k') = false := by simp [h]
      clear h hb hn hm
      go_enter Tryz.func28, Tryz.ntmps28
      go_wp2
      go_loopw [5] (fun i wr => ∃ j : Nat, j ≤ n ∧ i = .int .i64 (j : Int) ∧ KTy2 w (.int .i64 k) (.slice A n c) (.int .i64 k') (.slice B n d) wr ∧ Aside (ds.take j = ds'.take j)) (fun i _ => n - (intOf i).toNat)
      case atStart => exact ⟨0, by omega, rfl, KTy2.init _ _ _ _ _ _ _, ⟨rfl⟩⟩
      case round =>
        obtain ⟨j, hj, rfl, hk0, HT⟩ := hrel
        by_cases hlt : j < n
        · obtain ⟨ad, rfl, hcell⟩ := (HX.out.ext hk0.1.out).at' j (by rw [HN.out]; exact hlt)
          obtain ⟨bd, rfl, hcell'⟩ := (HY.out.ext hk0.1.out).at' j (by rw [HM.out]; exact hlt)
          obtain ⟨x, hx⟩ : ∃ x, ds.getD j 0 = x := ⟨_, rfl⟩
          obtain ⟨y, hy⟩ : ∃ y, ds'.getD j 0 = y := ⟨_, rfl⟩
          rw [hx] at hcell
          rw [hy] at hcell'
          have HXX := Aside.mk hx
          have HYY := Aside.mk hy
          have HK := Aside.mk hk0
          clear hx hy
          by_cases hxy : x = y
          · have hb1 : (x == y) = true := by simp [hxy]
            have hb2 : (x != y) = false := by simp [hxy]
            have HT2 : Aside (ds.take (j + 1) = ds'.take (j + 1)) := ⟨by rw [take_succ_int _ _ (by rw [HN.out]; exact hlt), take_succ_int _ _ (by rw [HM.out]; exact hlt), HT.out, HXX.out, HYY.out, hxy]⟩
            clear hxy
            go_wp2_with fail
            go_quiet (fail)
            go_wp2
            go_roundw
            case rel => exact ⟨j + 1, by omega, by go_num, KTy2.ext (Ext.of_drewN ⟨_, rfl⟩) HK.out, HT2⟩
            case measure => simp [intOf]; omega
          · have hb1 : (x == y) = false := beq_eq_false_iff_ne.2 hxy
            have hb2 : (x != y) = true := by simp [bne, hb1]
            have HF : Aside (b = false) := ⟨by
              rw [HB.out, decide_eq_false]
              intro e
              apply hxy
              rw [← HXX.out, ← HYY.out, e]⟩
            clear hxy
            go_wp2_with fail
            go_quiet (fail)
            go_wp2
            go_ret
            exact ⟨by rw [HF.out]; rfl, HK.out.1.out.trans (Ext.of_drewN ⟨_, rfl⟩)⟩
        · have hjn : j = n := by omega
          have HF : Aside (b = true) := ⟨by
            rw [HB.out, decide_eq_true]
            have := HT.out
            rw [hjn] at this
            conv at this => lhs; rw [← HN.out, List.take_length]
            conv at this => rhs; rw [← HM.out, List.take_length]
            exact this⟩
          go_wp2
          go_ret
          exact ⟨by rw [HF.out]; rfl, hk0.1.out⟩
    · have HB : Aside (b = false) := ⟨by
        rw [← hb, decide_eq_false, Bool.and_false]
        intro e
        apply hnm
        rw [← hn, ← hm, e]⟩
      have hk : (k == k') = true := by simp [h]
      have hk2 : (k != k') = false := by simp [h]
      have hnm1 : ((n : Int) == (m : Int)) = false := beq_eq_false_iff_ne.2 (by omega)
      have hnm2 : ((n : Int) != (m : Int)) = true := by simp [bne, hnm1]
      clear h hb hn hm hnm
      go_enter Tryz.func28, Tryz.ntmps28
      go_wp2
      go_ret
      exact ⟨by rw [HB.out]; rfl, ((Ext.refl w).alloc _).alloc _⟩
  · have hk : (k == k') = false := beq_eq_false_iff_ne.2 h
    have hk2 : (k != k') = true := by simp [bne, hk]
    have HB : Aside (b = false) := ⟨by rw [← hb, hk]; rfl⟩
    clear h hb hn hm
    go_enter Tryz.func28, Tryz.ntmps28
    go_wp2
    go_ret
    exact ⟨by rw [HB.out]; rfl, ((Ext.refl w).alloc _).alloc _⟩
end Go.Proofs.YtcbaipnphepbeaaGreatDoor

namespace Go.Proofs.YtcbaipnphepbeaaGreatDoor
open Go.RowKit

set_option maxHeartbeats 2000000 in
theorem rIsType_calls {w : World} {v : Value} {k : Int} {ds : List Int} {t : Bool} (h : TV w v k ds) (ht : tyOk k ds = t) :
    Calls Tryz.prog 36 #[v] w fun e w' => e = .returned (.bool t) ∧ Ext w w' := by
  obtain ⟨x, rfl, hi⟩ := h
  have HI := Aside.mk hi
  have HT := Aside.mk ht
  obtain ⟨A, c, rfl, hc, hl, _, _⟩ := hi
  obtain ⟨n, hn⟩ : ∃ n, ds.length = n := ⟨_, rfl⟩
  have HN := Aside.mk hn
  rw [hn] at hc hl HI ⊢
  clear ht hn
  by_cases h3 : k = 3
  · have hk3 : (k == 3) = true := by simp [h3]
    have HK := Aside.mk h3
    clear h3
    go_enter Tryz.func36, Tryz.ntmps36
    go_wp2
    go_loop [3] (fun i => ∃ j : Nat, j ≤ n ∧ i = .int .i64 (j : Int) ∧ Aside ((ds.take j).any badd = false)) (fun i => n - (intOf i).toNat)
    case atStart => exact ⟨0, by omega, rfl, ⟨by simp⟩⟩
    case round =>
    obtain ⟨j, hj, rfl, HP⟩ := hrel
    by_cases hlt : j < n
    · obtain ⟨ad, rfl, hcell⟩ := (HI.out.ext ((Ext.refl w).alloc (.cells #[.int .i64 k, .slice A n c] 25))).at' j (by rw [HN.out]; exact hlt)
      obtain ⟨x, hx⟩ : ∃ x, ds.getD j 0 = x := ⟨_, rfl⟩
      rw [hx] at hcell
      have HG : Aside (ds[j]? = some x) := ⟨by rw [← hx, List.getD_eq_getElem?_getD, List.getElem?_eq_getElem (by rw [HN.out]; exact hlt)]; rfl⟩
      clear hx
      by_cases hb : badd x = true
      · have HF : Aside (t = false) := ⟨by
          rw [← HT.out]; unfold tyOk
          rw [show ds.any badd = true from List.any_eq_true.2 ⟨x, List.mem_of_getElem? HG.out, hb⟩]; rfl⟩
        by_cases h1 : x < 1
        · clear hb
          go_wp2
          go_ret
          exact ⟨by rw [HF.out]; rfl, (Ext.refl w).alloc _⟩
        · have h8 : 8 < x := by
            unfold badd at hb
            simp at hb; omega
          clear hb
          go_wp2
          go_ret
          exact ⟨by rw [HF.out]; rfl, (Ext.refl w).alloc _⟩
      · have HP2 : Aside ((ds.take (j + 1)).any badd = false) := ⟨by rw [List.take_add_one, HG.out, List.any_append, HP.out]; simp; simpa using hb⟩
        have h18 : 1 ≤ x ∧ x ≤ 8 := by
          unfold badd at hb
          simp at hb; omega
        obtain ⟨h1, h8⟩ := h18
        clear hb
        go_wp2
        go_round
        case rel => exact ⟨j + 1, by omega, by go_num, HP2⟩
        case measure => simp [intOf]; omega
    have hjn : j = n := by omega
    have HANY : Aside (ds.any badd = false) := ⟨by have := HP.out; rw [hjn, ← HN.out, List.take_length] at this; exact this⟩
    clear HP
    go_wp2
    go_ret
    exact ⟨by rw [← HT.out]; unfold tyOk; rw [HANY.out, if_neg (by rw [HK.out]; decide), if_pos HK.out, HN.out]; simp [int_is1], (Ext.refl w).alloc _⟩
  · have hk3 : (k == 3) = false := beq_eq_false_iff_ne.2 h3
    by_cases h1 : k = 1
    · have hk1 : (k == 1) = true := by simp [h1]
      have HK := Aside.mk h1
      clear h3 h1
      go_enter Tryz.func36, Tryz.ntmps36
      go_wp2
      go_loop [3] (fun i => ∃ j : Nat, j ≤ n ∧ i = .int .i64 (j : Int) ∧ Aside ((ds.take j).any badd = false)) (fun i => n - (intOf i).toNat)
      case atStart => exact ⟨0, by omega, rfl, ⟨by simp⟩⟩
      case round =>
      obtain ⟨j, hj, rfl, HP⟩ := hrel
      by_cases hlt : j < n
      · obtain ⟨ad, rfl, hcell⟩ := (HI.out.ext ((Ext.refl w).alloc (.cells #[.int .i64 k, .slice A n c] 25))).at' j (by rw [HN.out]; exact hlt)
        obtain ⟨x, hx⟩ : ∃ x, ds.getD j 0 = x := ⟨_, rfl⟩
        rw [hx] at hcell
        have HG : Aside (ds[j]? = some x) := ⟨by rw [← hx, List.getD_eq_getElem?_getD, List.getElem?_eq_getElem (by rw [HN.out]; exact hlt)]; rfl⟩
        clear hx
        by_cases hb : badd x = true
        · have HF : Aside (t = false) := ⟨by
            rw [← HT.out]; unfold tyOk
            rw [show ds.any badd = true from List.any_eq_true.2 ⟨x, List.mem_of_getElem? HG.out, hb⟩]; rfl⟩
          by_cases h1 : x < 1
          · clear hb
            go_wp2
            go_ret
            exact ⟨by rw [HF.out]; rfl, (Ext.refl w).alloc _⟩
          · have h8 : 8 < x := by
              unfold badd at hb
              simp at hb; omega
            clear hb
            go_wp2
            go_ret
            exact ⟨by rw [HF.out]; rfl, (Ext.refl w).alloc _⟩
        · have HP2 : Aside ((ds.take (j + 1)).any badd = false) := ⟨by rw [List.take_add_one, HG.out, List.any_append, HP.out]; simp; simpa using hb⟩
          have h18 : 1 ≤ x ∧ x ≤ 8 := by
            unfold badd at hb
            simp at hb; omega
          obtain ⟨h1, h8⟩ := h18
          clear hb
          go_wp2
          go_round
          case rel => exact ⟨j + 1, by omega, by go_num, HP2⟩
          case measure => simp [intOf]; omega
      have hjn : j = n := by omega
      have HANY : Aside (ds.any badd = false) := ⟨by have := HP.out; rw [hjn, ← HN.out, List.take_length] at this; exact this⟩
      clear HP
      go_wp2
      go_ret
      exact ⟨by rw [← HT.out]; unfold tyOk; rw [HANY.out, if_pos (.inl HK.out), HN.out]; simp [int_le3], (Ext.refl w).alloc _⟩
    · have hk1 : (k == 1) = false := beq_eq_false_iff_ne.2 h1
      by_cases h2 : k = 2
      · have hk2 : (k == 2) = true := by simp [h2]
        have HK := Aside.mk h2
        clear h3 h1 h2
        go_enter Tryz.func36, Tryz.ntmps36
        go_wp2
        go_loop [3] (fun i => ∃ j : Nat, j ≤ n ∧ i = .int .i64 (j : Int) ∧ Aside ((ds.take j).any badd = false)) (fun i => n - (intOf i).toNat)
        case atStart => exact ⟨0, by omega, rfl, ⟨by simp⟩⟩
        case round =>
        obtain ⟨j, hj, rfl, HP⟩ := hrel
        by_cases hlt : j < n
        · obtain ⟨ad, rfl, hcell⟩ := (HI.out.ext ((Ext.refl w).alloc (.cells #[.int .i64 k, .slice A n c] 25))).at' j (by rw [HN.out]; exact hlt)
          obtain ⟨x, hx⟩ : ∃ x, ds.getD j 0 = x := ⟨_, rfl⟩
          rw [hx] at hcell
          have HG : Aside (ds[j]? = some x) := ⟨by rw [← hx, List.getD_eq_getElem?_getD, List.getElem?_eq_getElem (by rw [HN.out]; exact hlt)]; rfl⟩
          clear hx
          by_cases hb : badd x = true
          · have HF : Aside (t = false) := ⟨by
              rw [← HT.out]; unfold tyOk
              rw [show ds.any badd = true from List.any_eq_true.2 ⟨x, List.mem_of_getElem? HG.out, hb⟩]; rfl⟩
            by_cases h1 : x < 1
            · clear hb
              go_wp2
              go_ret
              exact ⟨by rw [HF.out]; rfl, (Ext.refl w).alloc _⟩
            · have h8 : 8 < x := by
                unfold badd at hb
                simp at hb; omega
              clear hb
              go_wp2
              go_ret
              exact ⟨by rw [HF.out]; rfl, (Ext.refl w).alloc _⟩
          · have HP2 : Aside ((ds.take (j + 1)).any badd = false) := ⟨by rw [List.take_add_one, HG.out, List.any_append, HP.out]; simp; simpa using hb⟩
            have h18 : 1 ≤ x ∧ x ≤ 8 := by
              unfold badd at hb
              simp at hb; omega
            obtain ⟨h1, h8⟩ := h18
            clear hb
            go_wp2
            go_round
            case rel => exact ⟨j + 1, by omega, by go_num, HP2⟩
            case measure => simp [intOf]; omega
        have hjn : j = n := by omega
        have HANY : Aside (ds.any badd = false) := ⟨by have := HP.out; rw [hjn, ← HN.out, List.take_length] at this; exact this⟩
        clear HP
        go_wp2
        go_ret
        exact ⟨by rw [← HT.out]; unfold tyOk; rw [HANY.out, if_pos (.inr HK.out), HN.out]; simp [int_le3], (Ext.refl w).alloc _⟩
      · have hk2 : (k == 2) = false := beq_eq_false_iff_ne.2 h2
        have HK : Aside (¬ (k = 1 ∨ k = 2) ∧ ¬ k = 3) := ⟨by omega⟩
        clear h3 h1 h2
        go_enter Tryz.func36, Tryz.ntmps36
        go_wp2
        go_loop [3] (fun i => ∃ j : Nat, j ≤ n ∧ i = .int .i64 (j : Int) ∧ Aside ((ds.take j).any badd = false)) (fun i => n - (intOf i).toNat)
        case atStart => exact ⟨0, by omega, rfl, ⟨by simp⟩⟩
        case round =>
        obtain ⟨j, hj, rfl, HP⟩ := hrel
        by_cases hlt : j < n
        · obtain ⟨ad, rfl, hcell⟩ := (HI.out.ext ((Ext.refl w).alloc (.cells #[.int .i64 k, .slice A n c] 25))).at' j (by rw [HN.out]; exact hlt)
          obtain ⟨x, hx⟩ : ∃ x, ds.getD j 0 = x := ⟨_, rfl⟩
          rw [hx] at hcell
          have HG : Aside (ds[j]? = some x) := ⟨by rw [← hx, List.getD_eq_getElem?_getD, List.getElem?_eq_getElem (by rw [HN.out]; exact hlt)]; rfl⟩
          clear hx
          by_cases hb : badd x = true
          · have HF : Aside (t = false) := ⟨by
              rw [← HT.out]; unfold tyOk
              rw [show ds.any badd = true from List.any_eq_true.2 ⟨x, List.mem_of_getElem? HG.out, hb⟩]; rfl⟩
            by_cases h1 : x < 1
            · clear hb
              go_wp2
              go_ret
              exact ⟨by rw [HF.out]; rfl, (Ext.refl w).alloc _⟩
            · have h8 : 8 < x := by
                unfold badd at hb
                simp at hb; omega
              clear hb
              go_wp2
              go_ret
              exact ⟨by rw [HF.out]; rfl, (Ext.refl w).alloc _⟩
          · have HP2 : Aside ((ds.take (j + 1)).any badd = false) := ⟨by rw [List.take_add_one, HG.out, List.any_append, HP.out]; simp; simpa using hb⟩
            have h18 : 1 ≤ x ∧ x ≤ 8 := by
              unfold badd at hb
              simp at hb; omega
            obtain ⟨h1, h8⟩ := h18
            clear hb
            go_wp2
            go_round
            case rel => exact ⟨j + 1, by omega, by go_num, HP2⟩
            case measure => simp [intOf]; omega
        have hjn : j = n := by omega
        have HANY : Aside (ds.any badd = false) := ⟨by have := HP.out; rw [hjn, ← HN.out, List.take_length] at this; exact this⟩
        clear HP
        go_wp2
        go_ret
        exact ⟨by rw [← HT.out]; unfold tyOk; rw [HANY.out, if_neg HK.out.1, if_neg HK.out.2]; simp, (Ext.refl w).alloc _⟩

/-! Text -/
def realB : ByteArray := ⟨#[114, 101, 97, 108]⟩
def flagB : ByteArray := ⟨#[102, 108, 97, 103]⟩
def indexB : ByteArray := ⟨#[105, 110, 100, 101, 120]⟩
def kindB (k : Int) : ByteArray := if k = 1 then realB else if k = 2 then flagB else indexB
def dimT (d : Int) : List UInt8 := 91 :: (dtext d.toNat ++ [93])
def dimsT (ds : List Int) : List UInt8 := ds.flatMap dimT
def tyText (k : Int) (ds : List Int) : List UInt8 := (kindB k).data.toList ++ dimsT ds
theorem dimsT_snoc (ds : List Int) (d : Int) : dimsT (ds ++ [d]) = dimsT ds ++ dimT d := by simp [dimsT, List.flatMap_append]
/-- The variables of package shape. -/
structure Glob3 (w : World) : Prop where
  base : Glob w
  k1 : w.cell? ⟨0, 1, none⟩ = some (.string realB)
  k2 : w.cell? ⟨0, 2, none⟩ = some (.string flagB)
  k3 : w.cell? ⟨0, 3, none⟩ = some (.string indexB)
  k0 : w.cell? ⟨0, 0, none⟩ = some (.string ⟨#[]⟩)
theorem Glob3.ext {w w' : World} (h : Glob3 w) (e : Ext w w') : Glob3 w' := ⟨h.base.ext e, e.cell h.k1, e.cell h.k2, e.cell h.k3, e.cell h.k0⟩
theorem digits_small : ∀ i : Fin 10, Lib.decDigits i.val = dtext i.val := by
  intro i
  have : i.val = 0 ∨ i.val = 1 ∨ i.val = 2 ∨ i.val = 3 ∨ i.val = 4 ∨ i.val = 5 ∨ i.val = 6 ∨ i.val = 7 ∨ i.val = 8 ∨ i.val = 9 := by omega
  rcases this with h | h | h | h | h | h | h | h | h | h <;> rw [h] <;> (unfold dtext; simp [Lib.decDigits, d10_pos, d10_zero, chr])
theorem itoa_calls {w : World} {d : Int} {s : ByteArray} (h1 : 1 ≤ d) (h8 : d ≤ 8) (hs : (⟨(dtext d.toNat).toArray⟩ : ByteArray) = s) :
    Calls Tryz.prog 83 #[.int .i64 d] w fun e w' => e = .returned (.string s) ∧ w = w' := by
  obtain ⟨i, rfl⟩ : ∃ i : Nat, d = (i : Int) := ⟨d.toNat, by omega⟩
  refine (Tryz.strconv_Itoa_small i (by omega) w).mono ?_
  rintro e w' ⟨rfl, rfl⟩
  refine ⟨?_, rfl⟩
  rw [← hs, Int.toNat_natCast, digits_small ⟨i, by omega⟩]
end Go.Proofs.YtcbaipnphepbeaaGreatDoor

namespace Go.Proofs.YtcbaipnphepbeaaGreatDoor
open Go.RowKit

theorem fold_from (r : List UInt8) : ∀ v, r.foldl (fun v c => 10 * v + (c.toNat - 48)) v = 10 ^ r.length * v + dval r := by
  induction r with
  | nil => intro v; simp [dval_nil]
  | cons c r ih =>
    intro v
    have h : dval (c :: r) = 10 ^ r.length * (c.toNat - 48) + dval r := by
      show r.foldl (fun v c => 10 * v + (c.toNat - 48)) (10 * 0 + (c.toNat - 48)) = _
      rw [ih, Nat.mul_zero, Nat.zero_add]
    rw [List.foldl_cons, ih, h, List.length_cons, Nat.pow_succ, Nat.mul_add, ← Nat.mul_assoc, Nat.add_assoc]
theorem dval_from (l r : List UInt8) : dval (l ++ r) = 10 ^ r.length * dval l + dval r := by
  show (l ++ r).foldl (fun v c => 10 * v + (c.toNat - 48)) 0 = _
  rw [List.foldl_append, fold_from]
  rfl

set_option maxHeartbeats 1000000 in
/-- Digits. -/
theorem rDigits_calls {w : World} {s : ByteArray} {b : Bool} (hs : s.size ≤ 1073741824) (hb : isDs s.data.toList = b) :
    Calls Tryz.prog 149 #[.string s] w fun e w' => e = .returned (.bool b) ∧ w = w' := by
  have hsz : s.data.toList.length = s.size := (Lib.size_eq s).symm
  have HSZ := Aside.mk hsz
  have HBB : Aside (b = (decide (0 < s.size) && s.data.toList.all isd)) := ⟨by
    rw [← hb]; unfold isDs
    cases hh : s.data.toList with
    | nil => rw [hh] at hsz; rw [← hsz]; rfl
    | cons x xs => rw [hh] at hsz; rw [← hsz]; simp⟩
  clear hsz hb
  go_enter Tryz.func149, Tryz.ntmps149
  go_wp2
  go_loop [3] (fun i => ∃ (k : Nat), k ≤ s.size ∧ i = .int .i64 (k : Int) ∧ Aside ((s.data.toList.take k).all isd = true)) (fun i => s.size - (intOf i).toNat)
  case atStart => exact ⟨0, Nat.zero_le _, rfl, ⟨by simp⟩⟩
  case round =>
    obtain ⟨k, hk, rfl, HD⟩ := hrel
    by_cases hlt : k < s.size
    · have hdk : s.data.toList[k]? = some s[k] := Lib.data_getElem? s k hlt
      obtain ⟨c, hc⟩ : ∃ c, s[k] = c := ⟨_, rfl⟩
      rw [hc] at hdk
      have HDK := Aside.mk hdk
      have hcn : c.toNat < 256 := c.toNat_lt
      obtain ⟨n, hn⟩ : ∃ n, c.toNat = n := ⟨_, rfl⟩
      have hcn2 : s[k].toNat = n := by rw [hc, hn]
      have HCN := Aside.mk hn
      rw [hn] at hcn
      clear hdk hc hn
      by_cases h48 : n < 48
      · have HF : Aside (b = false) := ⟨by
          rw [HBB.out, show s.data.toList.all isd = false from ?_, Bool.and_false]
          rw [List.all_eq_false]
          refine ⟨c, List.mem_of_getElem? HDK.out, ?_⟩
          simp [isd, HCN.out]; omega⟩
        have h1 : decide (n < 48) = true := decide_eq_true h48
        go_wp2
        go_ret
        exact ⟨by rw [HF.out]; rfl, rfl⟩
      · by_cases h57 : n > 57
        · have HF : Aside (b = false) := ⟨by
            rw [HBB.out, show s.data.toList.all isd = false from ?_, Bool.and_false]
            rw [List.all_eq_false]
            refine ⟨c, List.mem_of_getElem? HDK.out, ?_⟩
            simp [isd, HCN.out]; omega⟩
          go_wp2
          go_ret
          exact ⟨by rw [HF.out]; rfl, rfl⟩
        · have HDN : Aside ((s.data.toList.take (k + 1)).all isd = true) := ⟨by
            rw [take_snoc HDK.out, List.all_append, HD.out]
            simp [isd, HCN.out]; omega⟩
          go_wp2
          go_round
          case rel => exact ⟨k + 1, by omega, by go_num, HDN⟩
          case measure => simp [intOf]; omega
    · have hks : k = s.size := by omega
      have HF : Aside (b = decide (0 < s.size)) := ⟨by
        have h := HD.out
        rw [hks, ← HSZ.out, List.take_length] at h
        rw [HBB.out, h, Bool.and_true]⟩
      subst hks
      go_wp2
      go_ret
      exact ⟨by rw [HF.out]; simp, rfl⟩

set_option maxHeartbeats 2000000 in
/-- Decimal. -/
theorem rDec_calls {w : World} {s : ByteArray} (hs : s.size ≤ 1073741824) (hd : s.data.toList.all isd = true) (hlen : (dig (dval s.data.toList)).length ≤ 4900) :
    Calls Tryz.prog 150 #[.string s] w fun e w' => ∃ r, e = .returned r ∧ OV w.heap.size w' r (dig (dval s.data.toList)) ∧ Ext w w' := by
  have hsz : s.data.toList.length = s.size := (Lib.size_eq s).symm
  have HSZ := Aside.mk hsz
  have HLEN := Aside.mk hlen
  have HALL := Aside.mk hd
  clear hsz hlen hd
  go_enter Tryz.func150, Tryz.ntmps150
  go_wp2
  go_loopw [3, 4] (fun out i wr => ∃ (k : Nat), k ≤ s.size ∧ i = .int .i64 (k : Int) ∧ Aside (OV w.heap.size wr out (dig (dval (s.data.toList.take k)))) ∧ Aside (Ext w wr)) (fun _ i _ => s.size - (intOf i).toNat)
  case atStart => exact ⟨0, Nat.zero_le _, rfl, ⟨by simp [dval, dig_zero]; exact OV.nil _ _⟩, ⟨Ext.refl w⟩⟩
  case round =>
    obtain ⟨k, hk, rfl, HO, HB⟩ := hrel
    by_cases hlt : k < s.size
    · have hdk : s.data.toList[k]? = some s[k] := Lib.data_getElem? s k hlt
      obtain ⟨c, hc⟩ : ∃ c, s[k] = c := ⟨_, rfl⟩
      rw [hc] at hdk
      have HDK := Aside.mk hdk
      have hisd : isd c = true := List.all_eq_true.1 HALL.out c (List.mem_of_getElem? hdk)
      obtain ⟨n, hn⟩ : ∃ n, c.toNat = n := ⟨_, rfl⟩
      have hcn2 : s[k].toNat = n := by rw [hc, hn]
      have HCN := Aside.mk hn
      have h48 : 48 ≤ n ∧ n ≤ 57 := by
        unfold isd at hisd
        simp only [Bool.and_eq_true, decide_eq_true_eq] at hisd
        omega
      obtain ⟨h48, h57⟩ := h48
      clear hdk hc hn hisd
      obtain ⟨A, ca, rfl, _⟩ := HO.out.form
      obtain ⟨V, hV⟩ : ∃ V, dval (s.data.toList.take k) = V := ⟨_, rfl⟩
      rw [hV] at HO ⊢
      have HVV := Aside.mk hV
      have HVN : Aside (dval (s.data.toList.take (k + 1)) = 10 * V + (n - 48)) := ⟨by rw [take_snoc HDK.out, dval_snoc, HVV.out, HCN.out]⟩
      have hlen : (dig V).length ≤ 4900 := by
        refine Nat.le_trans (dig_len_mono ?_) HLEN.out
        rw [← hV]
        conv => rhs; rw [← List.take_append_drop k s.data.toList]
        rw [dval_from]
        have : 0 < 10 ^ (s.data.toList.drop k).length := Nat.pow_pos (by decide)
        exact Nat.le_trans (Nat.le_mul_of_pos_left _ this) (Nat.le_add_right _ _)
      obtain ⟨m, hm⟩ : ∃ m, (dig V).length = m := ⟨_, rfl⟩
      have HM := Aside.mk hm
      rw [hm] at hlen HO ⊢
      obtain ⟨c0, hc0⟩ : ∃ c0, n = 48 + c0 := ⟨n - 48, by omega⟩
      subst hc0
      have hc9 : c0 ≤ 9 := by omega
      clear hV hm
      go_wp2
      go_loopw [5, 6] (fun cr i wr' => ∃ (t cc : Nat) (zs : List Nat), t ≤ m ∧ i = .int .i64 (t : Int) ∧ cr = .int .u64 (cc : Int) ∧ cc ≤ 9 ∧ Aside (OV w.heap.size wr' (.slice A m ca) zs) ∧ Aside (Ext w wr') ∧ Aside (zs.length = m) ∧
        Aside (val zs + 4294967296 ^ t * cc = 10 * val ((dig V).take t) + c0 + 4294967296 ^ t * val ((dig V).drop t)) ∧ Aside (∀ j, t ≤ j → zs.getD j 0 = (dig V).getD j 0)) (fun _ i _ => m - (intOf i).toNat)
      case atStart => exact ⟨0, c0, dig V, Nat.zero_le _, rfl, by first | rfl | go_num, hc9, HO, HB, HM, ⟨by simp [val]; omega⟩, ⟨fun _ _ => rfl⟩⟩
      case round =>
        obtain ⟨t, cc, zs, ht, rfl, rfl, hcc, HZ, HB2, HL, HS, HG⟩ := hrel
        by_cases hlt2 : t < m
        · obtain ⟨g, c', heq, hbg, _, _, _⟩ := HZ.out.row (by rw [HL.out]; omega)
          injection heq with e1 e2 e3
          subst e1
          obtain ⟨x, hx⟩ : ∃ x, zs.getD t 0 = x := ⟨_, rfl⟩
          have hx4 : x < 4294967296 := hx ▸ HZ.out.1.get _
          have hzc := HZ.out.cell t (by rw [HL.out]; omega)
          have hzf := HZ.out.free t
          rw [hx] at hzc
          have HX := Aside.mk hx
          clear hx e2 e3
          go_wp2
          go_roundw
          case rel =>
            have hg := HG.out t (Nat.le_refl _)
            rw [HX.out] at hg
            refine ⟨t + 1, (cc + 10 * x) / 4294967296, zs.set t ((cc + 10 * x) % 4294967296), by omega, by go_num, by congr 1; omega, by omega, ⟨?_⟩, ⟨HB2.out.set hbg _⟩, ⟨by simp [HL.out]⟩, ⟨?_⟩, ⟨?_⟩⟩
            · rw [show (10 * (x : Int) + (cc : Int)) % 4294967296 = (((cc + 10 * x) % 4294967296 : Nat) : Int) from by omega]
              exact HZ.out.store t (by omega)
            · exact parse_step (by rw [HL.out]; exact hlt2) (by rw [HM.out]; exact hlt2) HS.out hg.symm HX.out
            · intro j hj
              rw [getD_set_ne (by omega)]
              exact HG.out j (by omega)
          case measure => simp [intOf]; omega
        · have htm : t = m := by omega
          subst htm
          have HX : Aside (val zs + 4294967296 ^ zs.length * cc = 10 * V + c0) := ⟨by
            have h := HS.out
            rw [← HM.out, List.take_length, List.drop_length, val_dig] at h
            rw [HL.out, ← HM.out, h]; simp [val]⟩
          have HLM : Aside ((dig V).length ≤ (dig (10 * V + c0)).length) := ⟨dig_len_mono (by omega)⟩
          rcases Nat.eq_zero_or_pos cc with rfl | hcp
          · have HR : Aside (zs = dig (10 * V + c0)) := ⟨dig_of_len HZ.out.1.ds (by have := HX.out; omega) (by rw [HL.out, ← HM.out]; exact HLM.out)⟩
            go_wp2
            go_roundw
            case rel => exact ⟨k + 1, by omega, by go_num, ⟨by rw [HVN.out, show 48 + c0 - 48 = c0 from by omega, ← HR.out]; exact HZ.out⟩, HB2⟩
            case measure => simp [intOf]; omega
          · have HR : Aside (zs ++ [cc] = dig (10 * V + c0)) := ⟨by
              rw [← HX.out, ← val_concat]
              refine (dig_val (HZ.out.1.ds.append (Ds.cons (by omega) Ds.nil)) ?_).symm
              intro _ h0
              simp at h0; omega⟩
            go_wp2_with (at_builtin; (refine append_u32 w.heap.size rfl _ _ rfl _ zs cc _ ?hz HZ.out rfl rfl (by omega) HB2.out.size ?hl ?_; (case hz => omega); (case hl => rw [HL.out]; omega); intro z1 w1 hz1 hg1; have HB1 := Aside.mk (HZ.out.ext_grown HB2.out (Nat.le_refl _) hg1); have HZ1 := Aside.mk hz1; clear hz1 hg1))
            go_roundw
            case rel => exact ⟨k + 1, by omega, by go_num, ⟨by rw [HVN.out, show 48 + c0 - 48 = c0 from by omega, ← HR.out]; exact HZ1.out⟩, HB1⟩
            case measure => simp [intOf]; omega
    · have hks : k = s.size := by omega
      subst hks
      have HF : Aside (dval (s.data.toList.take s.size) = dval s.data.toList) := ⟨by rw [← HSZ.out, List.take_length]⟩
      go_wp2
      go_ret
      exact ⟨_, rfl, by rw [← HF.out]; exact HO.out, HB.out⟩
end Go.Proofs.YtcbaipnphepbeaaGreatDoor
