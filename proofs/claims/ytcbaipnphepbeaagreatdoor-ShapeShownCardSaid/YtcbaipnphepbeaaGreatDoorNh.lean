/- Rows of ints, and contracts of package shape: IsType, size, Size, Same. Contract of fluxionref01.Text. Contracts of packages shape and fluxionref03: Size, Same, IsType, Text of types. Contracts of package fluxionref03: IsType; of shape and fluxionref03: Text of types. Contracts of fluxionref01: Digits, Decimal, Parse. -/
import Derived.Test.YtcbaipnphepbeaaGreatDoorNd
import Derived.Test.YtcbaipnphepbeaaGreatDoorNa
import Derived.Test.YtcbaipnphepbeaaGreatDoorNe
import Derived.Test.YtcbaipnphepbeaaGreatDoorShelf
import Derived.Test.YtcbaipnphepbeaaGreatDoorNf
import Derived.Deep.QuietTactic
import Derived.BigQuiet
import Derived.Test.YtcbaipnphepbeaaGreatDoorNg
namespace Go.Proofs.YtcbaipnphepbeaaGreatDoor
open Go.RowKit

def ivs (ds : List Int) : List Value := ds.map (.int .i64)
theorem ivs_get (ds : List Int) (j : Nat) (h : j < ds.length) : (ivs ds)[j]? = some (.int .i64 (ds.getD j 0)) := by
  simp [ivs, List.getD_eq_getElem?_getD, List.getElem?_eq_getElem h]
/-- A slice that reads as a list of ints. -/
def IV (w : World) (v : Value) (ds : List Int) : Prop := ∃ A c, v = .slice A ds.length c ∧ ds.length ≤ c ∧ ds.length ≤ 1073741824 ∧ (∀ ad, A = some ad → ad.spot = none) ∧ Rd w A (ivs ds)
theorem IV.ext {w w' : World} {v : Value} {ds : List Int} (h : IV w v ds) (e : Ext w w') : IV w' v ds := by
  obtain ⟨A, c, h1, h2, h3, h5, h4⟩ := h
  exact ⟨A, c, h1, h2, h3, h5, fun j v hj => let ⟨ad, ha, hc⟩ := h4 j v hj; ⟨ad, ha, e.cell hc⟩⟩
theorem IV.at' {w : World} {A : Option Addr} {n c : Nat} {ds : List Int} (h : IV w (.slice A n c) ds) (j : Nat) (hj : j < ds.length) : ∃ ad, A = some ad ∧ w.cell? (ad.add j) = some (.int .i64 (ds.getD j 0)) := by
  obtain ⟨A', c', e, _, _, _, h4⟩ := h
  injection e with e1 e2 e3
  subst e1
  exact h4 j _ (ivs_get ds j hj)
theorem IV.form {w : World} {v : Value} {ds : List Int} (h : IV w v ds) : ∃ A c, v = .slice A ds.length c ∧ ds.length ≤ c := let ⟨A, c, h1, h2, _⟩ := h; ⟨A, c, h1, h2⟩
/-- Is an int no size of an array? -/
def badd (n : Int) : Bool := decide (n < 1) || decide (8 < n)
theorem istype1_calls {w : World} {n : Int} :
    Calls Tryz.prog 86 #[.int .i64 n] w fun e w' => e = .returned (.bool (badd n)) ∧ w = w' := by
  unfold badd
  by_cases h1 : n < 1
  · have hd : decide (n < 1) = true := decide_eq_true h1
    rw [hd]
    go_enter Tryz.func86, Tryz.ntmps86
    go_wp2
    go_ret
    exact ⟨rfl, rfl⟩
  · have hd : decide (n < 1) = false := decide_eq_false h1
    rw [hd]
    go_enter Tryz.func86, Tryz.ntmps86
    go_wp2
    go_ret
    exact ⟨rfl, rfl⟩
/-- IndexFunc over ints. -/
theorem indexInt_calls {w : World} {F : FuncId} {v : Value} {ds : List Int} {p : Int → Bool} (hC : ∀ args w, Sem.run Tryz.prog (callFunc F args) w = .ok (.enter F args) w) (h : IV w v ds)
    (hF : ∀ n, Calls Tryz.prog F #[.int .i64 n] w fun e w' => e = .returned (.bool (p n)) ∧ w = w') :
    Calls Tryz.prog 125 #[v, .func (.func F) #[] #[]] w fun e w' => (∃ r : Int, e = .returned (.int .i64 r) ∧ decide (0 ≤ r) = ds.any p) ∧ w = w' := by
  obtain ⟨A, c, rfl, hc, hl, _, hr⟩ := id h
  have H := Aside.mk h
  have HF := Aside.mk hF
  clear h hF hr
  obtain ⟨n, hn⟩ : ∃ n, ds.length = n := ⟨_, rfl⟩
  have HN := Aside.mk hn
  rw [hn] at hc hl H ⊢
  clear hn
  go_enter Tryz.func125, Tryz.ntmps125
  go_wp2
  go_loop [8] (fun i => ∃ k : Nat, k ≤ n ∧ i = .int .i64 (k : Int) ∧ Aside ((ds.take k).any p = false)) (fun i => n - (intOf i).toNat)
  case atStart => exact ⟨0, by omega, rfl, ⟨by simp⟩⟩
  case round =>
    obtain ⟨k, hk, rfl, HP⟩ := hrel
    by_cases hlt : k < n
    · obtain ⟨ad, rfl, hcell⟩ := H.out.at' k (by rw [HN.out]; exact hlt)
      obtain ⟨x, hx⟩ : ∃ x, ds.getD k 0 = x := ⟨_, rfl⟩
      rw [hx] at hcell
      have hget : ds[k]? = some x := by
        rw [← hx, List.getD_eq_getElem?_getD, List.getElem?_eq_getElem (by rw [HN.out]; exact hlt)]; rfl
      have HG := Aside.mk hget
      obtain ⟨b, hb⟩ : ∃ b, p x = b := ⟨_, rfl⟩
      have HB := Aside.mk hb
      clear hx hget hb
      cases b
      · have HP2 : Aside ((ds.take (k + 1)).any p = false) := ⟨by rw [List.take_add_one, HG.out, List.any_append, HP.out]; simp [HB.out]⟩
        go_wp2_with (with_reducible refine (HF.out x).mono ?_; rw [HB.out]; rintro e w2 ⟨rfl, rfl⟩)
        go_round
        case rel => exact ⟨k + 1, by omega, by go_num, HP2⟩
        case measure => simp [intOf]; omega
      · have HT : Aside (ds.any p = true) := ⟨List.any_eq_true.2 ⟨x, List.mem_of_getElem? HG.out, HB.out⟩⟩
        go_wp2_with (with_reducible refine (HF.out x).mono ?_; rw [HB.out]; rintro e w2 ⟨rfl, rfl⟩)
        go_ret
        exact ⟨⟨_, rfl, by rw [HT.out]; simp⟩, rfl⟩
    · have hkn : k = n := by omega
      have HT : Aside (ds.any p = false) := ⟨by have := HP.out; rw [hkn, ← HN.out, List.take_length] at this; exact this⟩
      go_wp2
      go_ret
      exact ⟨⟨_, rfl, by rw [HT.out]; rfl⟩, rfl⟩
theorem hasBad_calls {w : World} {v : Value} {ds : List Int} {b : Bool} (h : IV w v ds) (hb : ds.any badd = b) :
    Calls Tryz.prog 85 #[v, .func (.func 86) #[] #[]] w fun e w' => e = .returned (.bool b) ∧ w = w' := by
  have H := Aside.mk h
  obtain ⟨A, c, rfl, _⟩ := h.form
  have HB := Aside.mk hb
  clear h hb
  go_enter Tryz.func85, Tryz.ntmps85
  go_wp2_with (go_at_call 125; refine (indexInt_calls (p := badd) (by intro args w; simp [go_sem]) H.out (fun n => istype1_calls)).mono ?_; rintro e w' ⟨⟨r, rfl, hr⟩, rfl⟩)
  go_ret
  exact ⟨by rw [← HB.out, ← hr]; rfl, rfl⟩
/-- A type: its kind and its sizes. -/
def TV (w : World) (v : Value) (k : Int) (ds : List Int) : Prop := ∃ x, v = .agg #[.int .i64 k, x] ∧ IV w x ds
theorem TV.ext {w w' : World} {v : Value} {k : Int} {ds : List Int} (h : TV w v k ds) (e : Ext w w') : TV w' v k ds := let ⟨x, e1, h⟩ := h; ⟨x, e1, h.ext e⟩
theorem int_le3 (n : Nat) : decide ((n : Int) ≤ 3) = decide (n ≤ 3) := by
  rw [decide_eq_decide]; omega
theorem int_is1 (n : Nat) : ((n : Int) == 1) = decide (n = 1) := by
  by_cases h : n = 1
  · simp [h]
  · rw [decide_eq_false h]; exact beq_eq_false_iff_ne.2 (by omega)
def tyOk (k : Int) (ds : List Int) : Bool := !(ds.any badd) && (if k = 1 ∨ k = 2 then decide (ds.length ≤ 3) else if k = 3 then decide (ds.length = 1) else false)
/-- What Size returns: the size and the error. -/
def sizeR (k : Int) (ds : List Int) : Int × Int := if tyOk k ds then (if k = 3 then (0, 12) else (ds.foldl (fun a d => a * d) 1, 0)) else (0, 5)
set_option maxHeartbeats 1000000 in
theorem isType_calls {w : World} {v : Value} {k : Int} {ds : List Int} {t : Bool} (h : TV w v k ds) (ht : tyOk k ds = t) :
    Calls Tryz.prog 34 #[v] w fun e w' => e = .returned (.bool t) ∧ Ext w w' := by
  obtain ⟨x, rfl, hi⟩ := h
  have HI := Aside.mk hi
  obtain ⟨b, hb⟩ : ∃ b, ds.any badd = b := ⟨_, rfl⟩
  have HB := Aside.mk hb
  unfold tyOk at ht
  rw [hb] at ht
  obtain ⟨A, c, rfl, hc, hl, _, _⟩ := hi
  obtain ⟨n, hn⟩ : ∃ n, ds.length = n := ⟨_, rfl⟩
  rw [hn] at hc hl HI ht ⊢
  clear hb hn
  by_cases h1 : k = 1
  · have hk1 : (k == 1) = true := by simp [h1]
    have HT : Aside (t = (!b && decide (n ≤ 3))) := ⟨by rw [← ht, if_pos (.inl h1)]⟩
    clear ht h1
    cases b
    · go_enter Tryz.func34, Tryz.ntmps34
      go_wp2_with (go_at_call 85; with_reducible refine (hasBad_calls (HI.out.ext ((Ext.refl w).alloc _)) HB.out).mono ?_; rintro e w1 ⟨rfl, rfl⟩)
      go_ret
      exact ⟨by rw [HT.out]; simp [int_le3], (Ext.refl w).alloc _⟩
    · go_enter Tryz.func34, Tryz.ntmps34
      go_wp2_with (go_at_call 85; with_reducible refine (hasBad_calls (HI.out.ext ((Ext.refl w).alloc _)) HB.out).mono ?_; rintro e w1 ⟨rfl, rfl⟩)
      go_ret
      exact ⟨by rw [HT.out]; rfl, (Ext.refl w).alloc _⟩
  · have hk1 : (k == 1) = false := beq_eq_false_iff_ne.2 h1
    by_cases h2 : k = 2
    · have hk2 : (k == 2) = true := by simp [h2]
      have HT : Aside (t = (!b && decide (n ≤ 3))) := ⟨by rw [← ht, if_pos (.inr h2)]⟩
      clear ht h1 h2
      cases b
      · go_enter Tryz.func34, Tryz.ntmps34
        go_wp2_with (go_at_call 85; with_reducible refine (hasBad_calls (HI.out.ext ((Ext.refl w).alloc _)) HB.out).mono ?_; rintro e w1 ⟨rfl, rfl⟩)
        go_ret
        exact ⟨by rw [HT.out]; simp [int_le3], (Ext.refl w).alloc _⟩
      · go_enter Tryz.func34, Tryz.ntmps34
        go_wp2_with (go_at_call 85; with_reducible refine (hasBad_calls (HI.out.ext ((Ext.refl w).alloc _)) HB.out).mono ?_; rintro e w1 ⟨rfl, rfl⟩)
        go_ret
        exact ⟨by rw [HT.out]; rfl, (Ext.refl w).alloc _⟩
    · have hk2 : (k == 2) = false := beq_eq_false_iff_ne.2 h2
      by_cases h3 : k = 3
      · have hk3 : (k == 3) = true := by simp [h3]
        have HT : Aside (t = (!b && decide (n = 1))) := ⟨by rw [← ht, if_neg (by omega), if_pos h3]⟩
        clear ht h1 h2 h3
        cases b
        · go_enter Tryz.func34, Tryz.ntmps34
          go_wp2_with (go_at_call 85; with_reducible refine (hasBad_calls (HI.out.ext ((Ext.refl w).alloc _)) HB.out).mono ?_; rintro e w1 ⟨rfl, rfl⟩)
          go_ret
          exact ⟨by rw [HT.out]; simp [int_is1], (Ext.refl w).alloc _⟩
        · go_enter Tryz.func34, Tryz.ntmps34
          go_wp2_with (go_at_call 85; with_reducible refine (hasBad_calls (HI.out.ext ((Ext.refl w).alloc _)) HB.out).mono ?_; rintro e w1 ⟨rfl, rfl⟩)
          go_ret
          exact ⟨by rw [HT.out]; rfl, (Ext.refl w).alloc _⟩
      · have hk3 : (k == 3) = false := beq_eq_false_iff_ne.2 h3
        have HT : Aside (t = false) := ⟨by rw [← ht, if_neg (by omega), if_neg h3, Bool.and_false]⟩
        clear ht h1 h2 h3
        go_enter Tryz.func34, Tryz.ntmps34
        go_wp2_with (go_at_call 85; with_reducible refine (hasBad_calls (HI.out.ext ((Ext.refl w).alloc _)) HB.out).mono ?_; rintro e w1 ⟨rfl, rfl⟩)
        go_ret
        exact ⟨by rw [HT.out]; rfl, (Ext.refl w).alloc _⟩

/-- The product of sizes. -/
def prodI (ds : List Int) : Int := ds.foldl (fun a d => a * d) 1
theorem prodI_snoc (ds : List Int) (d : Int) : prodI (ds ++ [d]) = prodI ds * d := by simp [prodI]
/-- Sizes of a type: at most three, each from 1 to 8. -/
def Dims (ds : List Int) : Prop := ds.length ≤ 3 ∧ ∀ d ∈ ds, 1 ≤ d ∧ d ≤ 8
theorem prodI_pos : ∀ (n : Nat) (ds : List Int), ds.length = n → (∀ d ∈ ds, 1 ≤ d ∧ d ≤ 8) → 1 ≤ prodI ds ∧ prodI ds ≤ 8 ^ n
  | 0, ds, h, _ => by rw [List.eq_nil_of_length_eq_zero h]; exact ⟨by decide, by decide⟩
  | n + 1, ds, h, hd => by
    obtain ⟨xs, x, rfl⟩ : ∃ xs x, ds = xs ++ [x] := ⟨ds.dropLast, ds.getLast (by intro e; rw [e] at h; simp at h), (List.dropLast_concat_getLast _).symm⟩
    have hl : xs.length = n := by simpa using h
    have h1 := prodI_pos n xs hl fun d hm => hd d (List.mem_append_left _ hm)
    have h2 := hd x (by simp)
    rw [prodI_snoc]
    have e1 : prodI xs * 1 ≤ prodI xs * x := Int.mul_le_mul_of_nonneg_left h2.1 (by omega)
    have e2 : prodI xs * x ≤ prodI xs * 8 := Int.mul_le_mul_of_nonneg_left h2.2 (by omega)
    rw [Int.pow_succ]
    omega
theorem Dims.take {ds : List Int} (h : Dims ds) (k : Nat) : Dims (ds.take k) := ⟨Nat.le_trans (List.length_take_le' _ _) h.1, fun d hm => h.2 d (List.mem_of_mem_take hm)⟩
theorem Dims.prod {ds : List Int} (h : Dims ds) : 1 ≤ prodI ds ∧ prodI ds ≤ 512 := by
  have h1 := prodI_pos ds.length ds rfl h.2
  refine ⟨h1.1, Int.le_trans h1.2 ?_⟩
  have := h.1
  rcases (show ds.length = 0 ∨ ds.length = 1 ∨ ds.length = 2 ∨ ds.length = 3 by omega) with e | e | e | e <;> rw [e] <;> decide
theorem Dims.get {ds : List Int} (h : Dims ds) {k : Nat} (hk : k < ds.length) : 1 ≤ ds.getD k 0 ∧ ds.getD k 0 ≤ 8 := by
  rw [List.getD_eq_getElem?_getD, List.getElem?_eq_getElem hk, Option.getD_some]
  exact h.2 _ (List.getElem_mem hk)
theorem take_succ_int (ds : List Int) (k : Nat) (hk : k < ds.length) : ds.take (k + 1) = ds.take k ++ [ds.getD k 0] := by
  rw [List.take_add_one, List.getElem?_eq_getElem hk, List.getD_eq_getElem?_getD, List.getElem?_eq_getElem hk]; rfl
theorem wrap64_id {x : Int} (h1 : -9223372036854775808 ≤ x) (h2 : x ≤ 9223372036854775807) : wrap64 x = x := by unfold wrap64; omega
set_option maxHeartbeats 1000000 in
theorem shSize_calls {w : World} {v : Value} {k : Int} {ds : List Int} (h : TV w v k ds) (hd : Dims ds) :
    Calls Tryz.prog 58 #[v] w fun e w' => e = .returned (.int .i64 (prodI ds)) ∧ Ext w w' := by
  obtain ⟨x, rfl, hi⟩ := h
  have HI := Aside.mk hi
  have HD := Aside.mk hd
  have hd3 := hd.1
  obtain ⟨A, c, rfl, hc, _, _, _⟩ := hi
  obtain ⟨n, hn⟩ : ∃ n, ds.length = n := ⟨_, rfl⟩
  have HN := Aside.mk hn
  rw [hn] at hc HI hd3 ⊢
  clear hd hn
  go_enter Tryz.func58, Tryz.ntmps58
  go_wp2
  go_loop [3, 9] (fun m i => ∃ j : Nat, j ≤ n ∧ i = .int .i64 (j : Int) ∧ m = .int .i64 (prodI (ds.take j))) (fun _ i => n - (intOf i).toNat)
  case atStart => exact ⟨0, by omega, rfl, by simp [prodI]⟩
  case round =>
    obtain ⟨j, hj, rfl, rfl⟩ := hrel
    by_cases hlt : j < n
    · have hp := (HD.out.take j).prod
      have hp2 := (HD.out.take (j + 1)).prod
      have hx := HD.out.get (k := j) (by rw [HN.out]; exact hlt)
      have hs : prodI (ds.take (j + 1)) = prodI (ds.take j) * ds.getD j 0 := by rw [take_succ_int _ _ (by rw [HN.out]; exact hlt), prodI_snoc]
      obtain ⟨ad, rfl, hcell⟩ := (HI.out.ext ((Ext.refl w).alloc (.cells #[.int .i64 k, .slice A n c] 25))).at' j (by rw [HN.out]; exact hlt)
      obtain ⟨d, hdd⟩ : ∃ d, ds.getD j 0 = d := ⟨_, rfl⟩
      obtain ⟨p, hpp⟩ : ∃ p, prodI (ds.take j) = p := ⟨_, rfl⟩
      obtain ⟨p2, hp2'⟩ : ∃ p, prodI (ds.take (j + 1)) = p := ⟨_, rfl⟩
      rw [hdd] at hcell hx hs
      rw [hpp] at hp hs ⊢
      rw [hp2'] at hp2 hs
      have hmul : IntKind.i64.wrap (p * d) = p2 := by rw [← hs]; exact wrap_i64 _ (by omega) (by omega)
      have hmul2 : wrap64 (p * d) = p2 := by rw [← hs]; exact wrap64_id (by omega) (by omega)
      have HP2 := Aside.mk hp2'
      clear hdd hpp hp2' hs
      go_wp2
      go_round
      case rel => exact ⟨j + 1, by omega, by go_num, by rw [HP2.out]⟩
      case measure => simp [intOf]; omega
    · have hjn : j = n := by omega
      have HT : Aside (prodI (ds.take j) = prodI ds) := ⟨by rw [hjn, ← HN.out, List.take_length]⟩
      rw [HT.out]
      go_wp2
      go_ret
      exact ⟨rfl, (Ext.refl w).alloc _⟩
set_option maxHeartbeats 1000000 in
theorem rSize_calls {w : World} {v : Value} {k : Int} {ds : List Int} (h : TV w v k ds) (hd : Dims ds) :
    Calls Tryz.prog 40 #[v] w fun e w' => e = .returned (.int .i64 (prodI ds)) ∧ Ext w w' := by
  obtain ⟨x, rfl, hi⟩ := h
  have HI := Aside.mk hi
  have HD := Aside.mk hd
  have hd3 := hd.1
  obtain ⟨A, c, rfl, hc, _, _, _⟩ := hi
  obtain ⟨n, hn⟩ : ∃ n, ds.length = n := ⟨_, rfl⟩
  have HN := Aside.mk hn
  rw [hn] at hc HI hd3 ⊢
  clear hd hn
  go_enter Tryz.func40, Tryz.ntmps40
  go_wp2
  go_loop [3, 4] (fun m i => ∃ j : Nat, j ≤ n ∧ i = .int .i64 (j : Int) ∧ m = .int .i64 (prodI (ds.take j))) (fun _ i => n - (intOf i).toNat)
  case atStart => exact ⟨0, by omega, rfl, by simp [prodI]⟩
  case round =>
    obtain ⟨j, hj, rfl, rfl⟩ := hrel
    by_cases hlt : j < n
    · have hp := (HD.out.take j).prod
      have hp2 := (HD.out.take (j + 1)).prod
      have hx := HD.out.get (k := j) (by rw [HN.out]; exact hlt)
      have hs : prodI (ds.take (j + 1)) = prodI (ds.take j) * ds.getD j 0 := by rw [take_succ_int _ _ (by rw [HN.out]; exact hlt), prodI_snoc]
      obtain ⟨ad, rfl, hcell⟩ := (HI.out.ext ((Ext.refl w).alloc (.cells #[.int .i64 k, .slice A n c] 25))).at' j (by rw [HN.out]; exact hlt)
      obtain ⟨d, hdd⟩ : ∃ d, ds.getD j 0 = d := ⟨_, rfl⟩
      obtain ⟨p, hpp⟩ : ∃ p, prodI (ds.take j) = p := ⟨_, rfl⟩
      obtain ⟨p2, hp2'⟩ : ∃ p, prodI (ds.take (j + 1)) = p := ⟨_, rfl⟩
      rw [hdd] at hcell hx hs
      rw [hpp] at hp hs ⊢
      rw [hp2'] at hp2 hs
      have hmul : IntKind.i64.wrap (p * d) = p2 := by rw [← hs]; exact wrap_i64 _ (by omega) (by omega)
      have hmul2 : wrap64 (p * d) = p2 := by rw [← hs]; exact wrap64_id (by omega) (by omega)
      have HP2 := Aside.mk hp2'
      clear hdd hpp hp2' hs
      go_wp2
      go_round
      case rel => exact ⟨j + 1, by omega, by go_num, by rw [HP2.out]⟩
      case measure => simp [intOf]; omega
    · have hjn : j = n := by omega
      have HT : Aside (prodI (ds.take j) = prodI ds) := ⟨by rw [hjn, ← HN.out, List.take_length]⟩
      rw [HT.out]
      go_wp2
      go_ret
      exact ⟨rfl, (Ext.refl w).alloc _⟩
end Go.Proofs.YtcbaipnphepbeaaGreatDoor

namespace Go.Proofs.YtcbaipnphepbeaaGreatDoor
open Go.RowKit

end Go.Proofs.YtcbaipnphepbeaaGreatDoor

namespace Go.Proofs.YtcbaipnphepbeaaGreatDoor
open Go.RowKit

theorem addr_of {ad : Addr} (h : ad.spot = none) (j : Nat) : ad = ⟨ad.block, ad.off, none⟩ ∧ ad.add j = ⟨ad.block, ad.off + j, none⟩ := by
  obtain ⟨b, o, s⟩ := ad
  obtain rfl : s = none := h
  exact ⟨rfl, by simp [Addr.add]⟩
/-- slices.Equal of ints. -/
theorem eqInts {w : World} {u v : Value} {xs ys : List Int} {b : Bool} (hu : IV w u xs) (hv : IV w v ys) (hb : decide (xs = ys) = b) :
    Calls Tryz.prog 84 #[u, v] w fun e w' => e = .returned (.bool b) ∧ Ext w w' := by
  subst hb
  have HU := hu
  have HV := hv
  obtain ⟨A, c, rfl, hc, hl, hs, hr⟩ := hu
  obtain ⟨B, d, rfl, hc', hl', hs', hr'⟩ := hv
  by_cases hlen : xs.length = ys.length
  · rcases Nat.eq_zero_or_pos xs.length with h0 | h0
    · have e1 := List.eq_nil_of_length_eq_zero h0
      have e2 := List.eq_nil_of_length_eq_zero (hlen.symm.trans h0)
      subst e1 e2
      refine (Tryz.slices_Equal_int_empty A B c 0 d w (by decide)).mono ?_
      rintro e w' ⟨rfl, rfl⟩
      exact ⟨by simp, Ext.refl _⟩
    · obtain ⟨ad, rfl, _⟩ := HU.at' 0 h0
      obtain ⟨bd, rfl, _⟩ := HV.at' 0 (by omega)
      have ea := (addr_of (hs ad rfl) 0).1
      have eb := (addr_of (hs' bd rfl) 0).1
      rw [ea, eb]
      refine (Tryz.slices_Equal_int ad.block ad.off xs.length c bd.block bd.off ys.length d xs ys w (Nat.le_refl _) (Nat.le_refl _) (by omega) (by omega) ?_ ?_).mono ?_
      · intro j hj
        obtain ⟨ad', e, h⟩ := HU.at' j hj
        injection e with e
        subst e
        rw [(addr_of (hs ad rfl) j).2] at h
        exact h
      · intro j hj
        obtain ⟨bd', e, h⟩ := HV.at' j hj
        injection e with e
        subst e
        rw [(addr_of (hs' bd rfl) j).2] at h
        exact h
      · rintro e w' ⟨rfl, q, rfl⟩
        refine ⟨?_, Ext.of_drewN ⟨q, rfl⟩⟩
        rw [List.take_length, List.take_length]
        congr 2
        by_cases h : xs = ys
        · simp [h]
        · rw [decide_eq_false h]; exact beq_eq_false_iff_ne.2 h
  · refine (Tryz.slices_Equal_int_lens A B xs.length c ys.length d w hlen).mono ?_
    rintro e w' ⟨rfl, rfl⟩
    exact ⟨by rw [decide_eq_false (fun h => hlen (by rw [h]))], Ext.refl _⟩
/-- Two boxes that hold types. -/
abbrev KTy2 (w : World) (x0 x1 y0 y1 : Value) (w' : World) : Prop := Aside (Ext w w') ∧ w'.cell? ⟨w.heap.size, 0, none⟩ = some x0 ∧ w'.cell? ⟨w.heap.size, 1, none⟩ = some x1 ∧ w'.cell? ⟨w.heap.size + 1, 0, none⟩ = some y0 ∧ w'.cell? ⟨w.heap.size + 1, 1, none⟩ = some y1
theorem KTy2.ext {w w1 w2 : World} {x0 x1 y0 y1 : Value} (e : Ext w1 w2) (h : KTy2 w x0 x1 y0 y1 w1) : KTy2 w x0 x1 y0 y1 w2 := ⟨⟨h.1.out.trans e⟩, e.cell h.2.1, e.cell h.2.2.1, e.cell h.2.2.2.1, e.cell h.2.2.2.2⟩
theorem KTy2.init (w : World) (x0 x1 y0 y1 : Value) (t t' : TypeId) : KTy2 w x0 x1 y0 y1 ((w.alloc (.cells #[x0, x1] t)).alloc (.cells #[y0, y1] t')) :=
  ⟨⟨((Ext.refl w).alloc _).alloc _⟩, cell_old (cell_new rfl rfl), cell_old (cell_new rfl rfl), cell_new (by simp) rfl, cell_new (by simp) rfl⟩
/-- Are two types the same? -/
def tySame (k : Int) (ds : List Int) (k' : Int) (ds' : List Int) : Bool := k == k' && decide (ds = ds')
set_option maxHeartbeats 1000000 in
theorem shSame_calls {w : World} {u v : Value} {k k' : Int} {ds ds' : List Int} {b : Bool} (hu : TV w u k ds) (hv : TV w v k' ds') (hb : tySame k ds k' ds' = b) :
    Calls Tryz.prog 33 #[u, v] w fun e w' => e = .returned (.bool b) ∧ Ext w w' := by
  obtain ⟨x, rfl, hx⟩ := hu
  obtain ⟨y, rfl, hy⟩ := hv
  have HX := Aside.mk hx
  have HY := Aside.mk hy
  obtain ⟨d, hd⟩ : ∃ d, decide (ds = ds') = d := ⟨_, rfl⟩
  have HD := Aside.mk hd
  unfold tySame at hb
  rw [hd] at hb
  have HB := Aside.mk hb
  clear hx hy hd hb
  by_cases h : k = k'
  · have hk : (k == k') = true := by simp [h]
    have HB2 : Aside (b = d) := ⟨by rw [← HB.out, hk]; rfl⟩
    clear h
    go_enter Tryz.func33, Tryz.ntmps33
    go_wp2_with (go_at_call 84; with_reducible refine (eqInts (HX.out.ext (((Ext.refl w).alloc _).alloc _)) (HY.out.ext (((Ext.refl w).alloc _).alloc _)) HD.out).mono ?_; rintro e w1 ⟨rfl, he⟩; have HE := Aside.mk he; clear he)
    go_ret
    exact ⟨by rw [HB2.out]; rfl, (((Ext.refl w).alloc _).alloc _).trans HE.out⟩
  · have hk : (k == k') = false := beq_eq_false_iff_ne.2 h
    have HB2 : Aside (b = false) := ⟨by rw [← HB.out, hk]; rfl⟩
    clear h
    go_enter Tryz.func33, Tryz.ntmps33
    go_wp2_with (go_at_call 84; with_reducible refine (eqInts (HX.out.ext (((Ext.refl w).alloc _).alloc _)) (HY.out.ext (((Ext.refl w).alloc _).alloc _)) HD.out).mono ?_; rintro e w1 ⟨rfl, he⟩; have HE := Aside.mk he; clear he)
    go_ret
    exact ⟨by rw [HB2.out]; rfl, ((Ext.refl w).alloc _).alloc _⟩
/-- A box that holds a type. -/
abbrev KTy (w : World) (x0 x1 : Value) (w' : World) : Prop := Aside (Ext w w') ∧ w'.cell? ⟨w.heap.size, 0, none⟩ = some x0 ∧ w'.cell? ⟨w.heap.size, 1, none⟩ = some x1
theorem KTy.ext {w w1 w2 : World} {x0 x1 : Value} (e : Ext w1 w2) (h : KTy w x0 x1 w1) : KTy w x0 x1 w2 := ⟨⟨h.1.out.trans e⟩, e.cell h.2.1, e.cell h.2.2⟩
theorem KTy.init (w : World) (x0 x1 : Value) (t : TypeId) : KTy w x0 x1 (w.alloc (.cells #[x0, x1] t)) := ⟨⟨(Ext.refl w).alloc _⟩, cell_new rfl rfl, cell_new rfl rfl⟩
theorem tyOk_dims {k : Int} {ds : List Int} (h : tyOk k ds = true) : Dims ds := by
  unfold tyOk at h
  simp only [Bool.and_eq_true, Bool.not_eq_true'] at h
  refine ⟨?_, ?_⟩
  · have h2 := h.2
    split at h2
    · exact of_decide_eq_true h2
    · split at h2
      · have := of_decide_eq_true h2; omega
      · cases h2
  · intro d hd
    have := List.any_eq_false.1 h.1 d hd
    unfold badd at this
    simp at this
    omega
set_option maxHeartbeats 1000000 in
theorem sizeOf_calls {w : World} {v : Value} {k : Int} {ds : List Int} {a e0 : Int} (h : TV w v k ds) (hr : sizeR k ds = (a, e0)) :
    Calls Tryz.prog 37 #[v] w fun e w' => e = .returned (.tuple #[.int .i64 a, .int .i64 e0]) ∧ Ext w w' := by
  have H := Aside.mk h
  obtain ⟨x, rfl, _⟩ := h
  have hk0 := KTy.init w (.int .i64 k) x 25
  obtain ⟨t, ht⟩ : ∃ t, tyOk k ds = t := ⟨_, rfl⟩
  have HT := Aside.mk ht
  unfold sizeR at hr
  rw [ht] at hr
  cases t
  · have HR : Aside (a = 0 ∧ e0 = 5) := ⟨by injection hr with h1 h2; exact ⟨h1.symm, h2.symm⟩⟩
    obtain ⟨rfl, rfl⟩ := HR.out
    have HR : Aside ((0 : Int) = 0) := ⟨rfl⟩
    clear hr ht
    go_enter Tryz.func37, Tryz.ntmps37
    go_wp2_with (go_at_call 34; with_reducible refine (isType_calls (H.out.ext hk0.1.out) HT.out).mono ?_; rintro e w1 ⟨rfl, he⟩; replace hk0 := KTy.ext he hk0; clear he)
    go_ret2
    exact ⟨rfl, hk0.1.out⟩
  · have HD := Aside.mk (tyOk_dims ht)
    by_cases h3 : k = 3
    · have hk3 : (k == 3) = true := by simp [h3]
      obtain ⟨rfl, rfl⟩ : a = 0 ∧ e0 = 12 := by rw [if_pos rfl, if_pos h3] at hr; injection hr with h1 h2; exact ⟨h1.symm, h2.symm⟩
      clear hr ht h3
      go_enter Tryz.func37, Tryz.ntmps37
      go_wp2_with (go_at_call 34; with_reducible refine (isType_calls (H.out.ext hk0.1.out) HT.out).mono ?_; rintro e w1 ⟨rfl, he⟩; replace hk0 := KTy.ext he hk0; clear he)
      go_ret2
      exact ⟨rfl, hk0.1.out⟩
    · have hk3 : (k == 3) = false := beq_eq_false_iff_ne.2 h3
      obtain ⟨rfl, rfl⟩ : a = prodI ds ∧ e0 = 0 := by rw [if_pos rfl, if_neg h3] at hr; injection hr with h1 h2; exact ⟨h1.symm, h2.symm⟩
      clear hr ht h3
      go_enter Tryz.func37, Tryz.ntmps37
      go_wp2_with (first | (go_at_call 34; with_reducible refine (isType_calls (H.out.ext hk0.1.out) HT.out).mono ?_; rintro e w1 ⟨rfl, he⟩; replace hk0 := KTy.ext he hk0; clear he) | (go_at_call 58; with_reducible refine (shSize_calls (H.out.ext hk0.1.out) HD.out).mono ?_; rintro e w2 ⟨rfl, he⟩; replace hk0 := KTy.ext he hk0; clear he))
      go_ret2
      exact ⟨rfl, hk0.1.out⟩
set_option maxHeartbeats 1000000 in
/-- ref03.Same. -/
theorem rSame_calls {w : World} {u v : Value} {k k' : Int} {ds ds' : List Int} {b : Bool} (hu : TV w u k ds) (hv : TV w v k' ds') (hb : tySame k ds k' ds' = b) :
    Calls Tryz.prog 28 #[u, v] w fun e w' => e = .returned (.bool b) ∧ Ext w w' := by
  obtain ⟨x, rfl, hx⟩ := hu
  obtain ⟨y, rfl, hy⟩ := hv
  have HX := Aside.mk hx
  have HY := Aside.mk hy
  unfold tySame at hb
  obtain ⟨A, c, rfl, hc, hl, _, _⟩ := hx
  obtain ⟨B, d, rfl, hc', hl', _, _⟩ := hy
  obtain ⟨n, hn⟩ : ∃ n, ds.length = n := ⟨_, rfl⟩
  obtain ⟨m, hm⟩ : ∃ n, ds'.length = n := ⟨_, rfl⟩
  have HN := Aside.mk hn
  have HM := Aside.mk hm
  rw [hn] at hc hl HX ⊢
  rw [hm] at hc' hl' HY ⊢
  by_cases h : k = k'
  · by_cases hnm : n = m
    · subst hnm
      have HB : Aside (b = decide (ds = ds')) := ⟨by rw [← hb, h]; simp⟩
      have hk : (k == k') = true := by simp [h]
      have hk2 : (k != k') = false := by simp [h]
      clear h hb hn hm
      go_enter Tryz.func28, Tryz.ntmps28
      go_wp2
      go_loopw [5] (fun i wr => ∃ j : Nat, j ≤ n ∧ i = .int .i64 (j : Int) ∧ KTy2 w (.int .i64 k) (.slice A n c) (.int .i64 k') (.slice B n d) wr ∧ Aside (ds.take j = ds'.take j)) (fun i _ => n - (intOf i).toNat)
      case atStart => exact ⟨0, by omega, rfl, KTy2.init _ _ _ _ _ _ _, ⟨rfl⟩⟩
      case round =>
        obtain ⟨j, hj, rfl, hk0, HT⟩ := hrel
        by_cases hlt : j < n
        · obtain ⟨ad, rfl, hcell⟩ := (HX.out.ext hk0.1.out).at' j (by rw [HN.out]; exact hlt)
          obtain ⟨bd, rfl, hcell'⟩ := (HY.out.ext hk0.1.out).at' j (by rw [HM.out]; exact hlt)
          obtain ⟨x, hx⟩ : ∃ x, ds.getD j 0 = x := ⟨_, rfl⟩
          obtain ⟨y, hy⟩ : ∃ y, ds'.getD j 0 = y := ⟨_, rfl⟩
          rw [hx] at hcell
          rw [hy] at hcell'
          have HXX := Aside.mk hx
          have HYY := Aside.mk hy
          have HK := Aside.mk hk0
          clear hx hy
          by_cases hxy : x = y
          · have hb1 : (x == y) = true := by simp [hxy]
            have hb2 : (x != y) = false := by simp [hxy]
            have HT2 : Aside (ds.take (j + 1) = ds'.take (j + 1)) := ⟨by rw [take_succ_int _ _ (by rw [HN.out]; exact hlt), take_succ_int _ _ (by rw [HM.out]; exact hlt), HT.out, HXX.out, HYY.out, hxy]⟩
            clear hxy
            go_wp2_with fail
            go_quiet (fail)
            go_wp2
            go_roundw
            case rel => exact ⟨j + 1, by omega, by go_num, KTy2.ext (Ext.of_drewN ⟨_, rfl⟩) HK.out, HT2⟩
            case measure => simp [intOf]; omega
          · have hb1 : (x == y) = false := beq_eq_false_iff_ne.2 hxy
            have hb2 : (x != y) = true := by simp [bne, hb1]
            have HF : Aside (b = false) := ⟨by
              rw [HB.out, decide_eq_false]
              intro e
              apply hxy
              rw [← HXX.out, ← HYY.out, e]⟩
            clear hxy
            go_wp2_with fail
            go_quiet (fail)
            go_wp2
            go_ret
            exact ⟨by rw [HF.out]; rfl, HK.out.1.out.trans (Ext.of_drewN ⟨_, rfl⟩)⟩
        · have hjn : j = n := by omega
          have HF : Aside (b = true) := ⟨by
            rw [HB.out, decide_eq_true]
            have := HT.out
            rw [hjn] at this
            conv at this => lhs; rw [← HN.out, List.take_length]
            conv at this => rhs; rw [← HM.out, List.take_length]
            exact this⟩
          go_wp2
          go_ret
          exact ⟨by rw [HF.out]; rfl, hk0.1.out⟩
    · have HB : Aside (b = false) := ⟨by
        rw [← hb, decide_eq_false, Bool.and_false]
        intro e
        apply hnm
        rw [← hn, ← hm, e]⟩
      have hk : (k == k') = true := by simp [h]
      have hk2 : (k != k') = false := by simp [h]
      have hnm1 : ((n : Int) == (m : Int)) = false := beq_eq_false_iff_ne.2 (by omega)
      have hnm2 : ((n : Int) != (m : Int)) = true := by simp [bne, hnm1]
      clear h hb hn hm hnm
      go_enter Tryz.func28, Tryz.ntmps28
      go_wp2
      go_ret
      exact ⟨by rw [HB.out]; rfl, ((Ext.refl w).alloc _).alloc _⟩
  · have hk : (k == k') = false := beq_eq_false_iff_ne.2 h
    have hk2 : (k != k') = true := by simp [bne, hk]
    have HB : Aside (b = false) := ⟨by rw [← hb, hk]; rfl⟩
    clear h hb hn hm
    go_enter Tryz.func28, Tryz.ntmps28
    go_wp2
    go_ret
    exact ⟨by rw [HB.out]; rfl, ((Ext.refl w).alloc _).alloc _⟩
end Go.Proofs.YtcbaipnphepbeaaGreatDoor

namespace Go.Proofs.YtcbaipnphepbeaaGreatDoor
open Go.RowKit

/-! Text -/
def realB : ByteArray := ⟨#[114, 101, 97, 108]⟩
def flagB : ByteArray := ⟨#[102, 108, 97, 103]⟩
def indexB : ByteArray := ⟨#[105, 110, 100, 101, 120]⟩
def kindB (k : Int) : ByteArray := if k = 1 then realB else if k = 2 then flagB else indexB
def dimT (d : Int) : List UInt8 := 91 :: (dtext d.toNat ++ [93])
def dimsT (ds : List Int) : List UInt8 := ds.flatMap dimT
def tyText (k : Int) (ds : List Int) : List UInt8 := (kindB k).data.toList ++ dimsT ds
/-- The variables of package shape. -/
structure Glob3 (w : World) : Prop where
  base : Glob w
  k1 : w.cell? ⟨0, 1, none⟩ = some (.string realB)
  k2 : w.cell? ⟨0, 2, none⟩ = some (.string flagB)
  k3 : w.cell? ⟨0, 3, none⟩ = some (.string indexB)
  k0 : w.cell? ⟨0, 0, none⟩ = some (.string ⟨#[]⟩)
theorem Glob3.ext {w w' : World} (h : Glob3 w) (e : Ext w w') : Glob3 w' := ⟨h.base.ext e, e.cell h.k1, e.cell h.k2, e.cell h.k3, e.cell h.k0⟩
theorem digits_small : ∀ i : Fin 10, Lib.decDigits i.val = dtext i.val := by
  intro i
  have : i.val = 0 ∨ i.val = 1 ∨ i.val = 2 ∨ i.val = 3 ∨ i.val = 4 ∨ i.val = 5 ∨ i.val = 6 ∨ i.val = 7 ∨ i.val = 8 ∨ i.val = 9 := by omega
  rcases this with h | h | h | h | h | h | h | h | h | h <;> rw [h] <;> (unfold dtext; simp [Lib.decDigits, d10_pos, d10_zero, chr])
theorem itoa_calls {w : World} {d : Int} {s : ByteArray} (h1 : 1 ≤ d) (h8 : d ≤ 8) (hs : (⟨(dtext d.toNat).toArray⟩ : ByteArray) = s) :
    Calls Tryz.prog 83 #[.int .i64 d] w fun e w' => e = .returned (.string s) ∧ w = w' := by
  obtain ⟨i, rfl⟩ : ∃ i : Nat, d = (i : Int) := ⟨d.toNat, by omega⟩
  refine (Tryz.strconv_Itoa_small i (by omega) w).mono ?_
  rintro e w' ⟨rfl, rfl⟩
  refine ⟨?_, rfl⟩
  rw [← hs, Int.toNat_natCast, digits_small ⟨i, by omega⟩]
end Go.Proofs.YtcbaipnphepbeaaGreatDoor

namespace Go.Proofs.YtcbaipnphepbeaaGreatDoor
open Go.RowKit

end Go.Proofs.YtcbaipnphepbeaaGreatDoor
