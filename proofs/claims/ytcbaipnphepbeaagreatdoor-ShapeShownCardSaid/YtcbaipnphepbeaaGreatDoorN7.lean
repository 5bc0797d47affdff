/- strings.IndexAny of the bytes that end a word, for any text. -/
import Derived.Test.YtcbaipnphepbeaaGreatDoorNn
import Derived.Laws.RangeAny
import Derived.Lib.OthersKept
import Derived.Deep.LoopGhost
namespace Go.Proofs.YtcbaipnphepbeaaGreatDoor
open Go.RowKit

theorem decode_bytes (s : ByteArray) (pos : Nat) (h : pos < s.size) (ha : 128 ≤ (s[pos]'h).toNat) :
    ∀ j, pos ≤ j → j < pos + (Utf8.decode s pos).2 → ∃ hj : j < s.size, 128 ≤ (s[j]'hj).toNat := by
  have hg : ∀ k, (hk : pos + k < s.size) → s.get! (pos + k) = s[pos + k]'hk := fun k hk => by
    simp [ByteArray.get!, getElem!_pos, hk]; rfl
  have base : ∀ n, (∀ k, k < n → ∃ hk : pos + k < s.size, 128 ≤ (s[pos + k]'hk).toNat) → ∀ j, pos ≤ j → j < pos + n → ∃ hj : j < s.size, 128 ≤ (s[j]'hj).toNat := by
    intro n hn j h1 h2
    obtain ⟨k, rfl⟩ : ∃ k, j = pos + k := ⟨j - pos, by omega⟩
    exact hn k (by omega)
  have c0 : ∃ hk : pos + 0 < s.size, 128 ≤ (s[pos + 0]'hk).toNat := ⟨h, ha⟩
  have cont : ∀ k, (decide (pos + k < s.size) && (s.get! (pos + k)).toNat / 64 == 2) = true → ∃ hk : pos + k < s.size, 128 ≤ (s[pos + k]'hk).toNat := by
    intro k hk
    simp only [Bool.and_eq_true, decide_eq_true_eq, beq_iff_eq] at hk
    refine ⟨hk.1, ?_⟩
    rw [← hg k hk.1]
    omega
  have one : ∀ j, pos ≤ j → j < pos + 1 → ∃ hj : j < s.size, 128 ≤ (s[j]'hj).toNat := base 1 fun k hk => by
    obtain rfl : k = 0 := by omega
    exact c0
  have hn : ¬ (s.get! (pos + 0)).toNat < 128 := by rw [hg 0 h]; exact Nat.not_lt.2 ha
  unfold Utf8.decode
  simp only
  rw [if_neg hn]
  split
  · rename_i h1
    simp only [Bool.and_eq_true] at h1
    split
    · refine base 2 fun k hk => ?_
      rcases (by omega : k = 0 ∨ k = 1) with rfl | rfl
      · exact c0
      · exact cont 1 (by simpa using h1.2)
    · exact one
  · split
    · rename_i h1
      simp only [Bool.and_eq_true] at h1
      split
      · refine base 3 fun k hk => ?_
        rcases (by omega : k = 0 ∨ k = 1 ∨ k = 2) with rfl | rfl | rfl
        · exact c0
        · exact cont 1 (by simpa using h1.1.2)
        · exact cont 2 (by simpa using h1.2)
      · exact one
    · split
      · rename_i h1
        simp only [Bool.and_eq_true] at h1
        split
        · refine base 4 fun k hk => ?_
          rcases (by omega : k = 0 ∨ k = 1 ∨ k = 2 ∨ k = 3) with rfl | rfl | rfl | rfl
          · exact c0
          · exact cont 1 (by simpa using h1.1.1.2)
          · exact cont 2 (by simpa using h1.1.2)
          · exact cont 3 (by simpa using h1.2)
        · exact one
      · exact one
theorem encode_size {r : Int} (h : 128 ≤ r) (hv : Lib.validRune r = true) : (∃ x y : UInt8, Utf8.encode r = ⟨#[x, y]⟩ ∧ 128 ≤ y.toNat) ∨ (3 ≤ (Utf8.encode r).size ∧ (Utf8.encode r).size ≤ 4) := by
  have hval : Utf8.valid r = true := by
    unfold Lib.validRune at hv
    unfold Utf8.valid
    simp only [decide_eq_true_eq] at hv
    simp only [Bool.or_eq_true, Bool.and_eq_true, decide_eq_true_eq]
    omega
  unfold Utf8.encode
  simp only [hval, if_true]
  rw [if_neg (by omega)]
  split
  · refine .inl ⟨_, _, rfl, ?_⟩
    rw [UInt8.toNat_ofNat']
    omega
  · split
    · exact .inr ⟨Nat.le_refl 3, (show 3 ≤ 4 by decide)⟩
    · exact .inr ⟨(show 3 ≤ 4 by decide), Nat.le_refl 4⟩
theorem vru {w : World} {r : Int} {b : Bool} (h : Lib.validRune r = b) : Calls Tryz.prog 162 #[.int .i32 r] w fun e w' => e = .returned (.bool b) ∧ w = w' := by
  subst h
  have := Any.utf8_ValidRune (ρ := Tryz.lays153_ren) { Tryz.lays153 with } r w
  exact this.mono fun e w' ⟨h1, h2⟩ => ⟨h1, h2.symm⟩
theorem ixb_empty {w : World} {s : ByteArray} {c : Int} (h : s.data.toList = []) : Calls Tryz.prog 161 #[.string s, .int .u8 c] w fun e w' => e = .returned (.int .i64 (-1)) ∧ w = w' := by
  have := Any.strings_IndexByte (ρ := Tryz.lays153_ren) { Tryz.lays153 with } s c w
  refine this.mono fun e w' ⟨h1, h2⟩ => ⟨?_, h2.symm⟩
  rw [h1, h]; rfl
set_option maxHeartbeats 4000000 in
set_option maxRecDepth 1000000 in
theorem ixr_high {w : World} {r : Int} (h : 128 ≤ r) :
    Calls Tryz.prog 143 #[.string ⟨#[44, 125]⟩, .int .i32 r] w fun e w' => e = .returned (.int .i64 (-1)) ∧ Ext w w' := by
  have h1 : (0 : Int) ≤ r := by omega
  have h2 : ¬ r < 128 := by omega
  by_cases he : r = 65533
  · have e1 : (r == 65533) = true := by simp [he]
    clear he
    go_enter Tryz.func143, Tryz.ntmps143
    go_wp2
    go_loopg [5, 6] 2 (fun g _ _ wx => ∃ i : Nat, i + g = 2 ∧ wx = w.iter ⟨#[44, 125]⟩ i)
    case atStart => exact ⟨0, by omega, rfl⟩
    case round =>
      obtain ⟨i, hig, rfl⟩ := hrel
      cases gk with
      | zero =>
        obtain rfl : i = 2 := by omega
        have hnx := run_next_end (P := Tryz.prog) w ⟨#[44, 125]⟩ 2
        go_wp2
        go_ret
        exact ⟨rfl, (Ext.refl w).alloc _⟩
      | succ g =>
        have hi : i < (⟨#[44, 125]⟩ : ByteArray).size := (show i < 2 by omega)
        obtain ⟨x, hx⟩ : ∃ x : UInt8, (⟨#[44, 125]⟩ : ByteArray)[i]'hi = x := ⟨_, rfl⟩
        have hx128 : x.toNat < 128 := by
          rw [← hx]
          rcases (by omega : i = 0 ∨ i = 1) with rfl | rfl <;> first | exact (show (44 : Nat) < 128 by decide) | exact (show (125 : Nat) < 128 by decide)
        have hnx := fun ty => run_next_ascii (P := Tryz.prog) w ⟨#[44, 125]⟩ i ty hi (by rw [hx]; exact hx128)
        rw [hx] at hnx
        have he2 : ((x.toNat : Int) == 65533) = false := beq_eq_false_iff_ne.2 (by omega)
        clear hx
        go_wp2
        go_roundg g
        case measure => omega
        case rel => exact ⟨i + 1, by omega, rfl⟩
  · have e1 : (r == 65533) = false := beq_eq_false_iff_ne.2 he
    obtain ⟨v, hv⟩ : ∃ b, Lib.validRune r = b := ⟨_, rfl⟩
    have HV := Aside.mk hv
    cases v
    · clear hv he
      go_enter Tryz.func143, Tryz.ntmps143
      go_wp2_with (go_at_call 162; (with_reducible refine (vru HV.out).mono ?_); rintro e w' ⟨rfl, rfl⟩)
      go_ret
      exact ⟨rfl, Ext.refl w⟩
    · rcases encode_size h hv with ⟨x, y, hxy, hy⟩ | hsz
      · have hb : ((125 : Int) != (y.toNat : Int)) = true := by
          have : ((125 : Int) == (y.toNat : Int)) = false := beq_eq_false_iff_ne.2 (by omega)
          simp [bne, this]
        have hx2 : 1 < (⟨#[x, y]⟩ : ByteArray).size := (show 1 < 2 from by decide)
        have hs2 : 1 < (⟨#[44, 125]⟩ : ByteArray).size := (show 1 < 2 from by decide)
        have hb2 : ((((⟨#[44, 125]⟩ : ByteArray)[1]'hs2).toNat : Int) != (((⟨#[x, y]⟩ : ByteArray)[1]'hx2).toNat : Int)) = true := hb
        clear hv he hb
        go_enter Tryz.func143, Tryz.ntmps143
        go_wp2_with (go_at_call 162; (with_reducible refine (vru HV.out).mono ?_); rintro e w' ⟨rfl, rfl⟩)
        go_step3
        go_wp2_with fail
        go_loopw [9] (fun i wr => i = .int .i64 1 ∧ wr = w) (fun _ _ => 0)
        case atStart => exact ⟨rfl, rfl⟩
        case round =>
          obtain ⟨rfl, rfl⟩ := hrel
          go_wp2_with fail
          go_step3
          go_wp2_with fail
          go_quiet (fail)
          go_wp2_with fail
          go_region_with (go_at_call 161; refine (ixb_empty (by rfl)).mono ?_; rintro e w' ⟨rfl, rfl⟩)
          all_goals
            go_wp2_with fail
            rw [Exit.noGoto_ret]
            go_simp
            simp (config := { zetaDelta := true }) only [Exit.noGoto_ret, Exit.inBlock, Exit.then]
            go_ret
            first
              | exact ⟨rfl, Ext.refl _⟩
              | exact ⟨rfl, (Ext.refl _).drewN _⟩
      · obtain ⟨rs, hrs⟩ : ∃ s, Utf8.encode r = s := ⟨_, rfl⟩
        rw [hrs] at hsz
        clear hv he
        go_enter Tryz.func143, Tryz.ntmps143
        obtain ⟨n, hn⟩ : ∃ n, rs.size = n + 1 := ⟨rs.size - 1, by omega⟩
        go_wp2_with (go_at_call 162; (with_reducible refine (vru HV.out).mono ?_); rintro e w' ⟨rfl, rfl⟩)
        go_step3
        go_wp2_with fail
        go_loopw [9] (fun i wr => i = .int .i64 (n : Int) ∧ wr = w) (fun _ _ => 0)
        case atStart => exact ⟨rfl, rfl⟩
        case round =>
          obtain ⟨rfl, rfl⟩ := hrel
          have hn2 : ¬ (n : Int) < 2 := by omega
          go_wp2_with fail
          go_ret
          exact ⟨rfl, Ext.refl _⟩
theorem ixr_ascii {w : World} {x : UInt8} (h : x.toNat < 128) (hx : sepB x = false) :
    Calls Tryz.prog 143 #[.string ⟨#[44, 125]⟩, .int .i32 (x.toNat : Int)] w fun e w' => e = .returned (.int .i64 (-1)) ∧ Ext w w' := by
  have := Any.strings_IndexRune_ascii (ρ := Tryz.lays153_ren) { Tryz.lays153 with } ⟨#[44, 125]⟩ (x.toNat : Int) w (by omega) (by omega)
  refine this.mono fun e w' ⟨h1, h2⟩ => ⟨?_, h2 ▸ Ext.refl w⟩
  rw [h1]
  have hb : ((x.toNat : Int)).toNat.toUInt8 = x := by simp
  rw [hb]
  have hc : Lib.indexByte [44, 125] x = -1 := by
    unfold sepB at hx
    simp only [Bool.or_eq_false_iff, beq_eq_false_iff_ne] at hx
    have h1 : ((44 : UInt8) == x) = false := beq_eq_false_iff_ne.2 fun e => hx.1 e.symm
    have h2 : ((125 : UInt8) == x) = false := beq_eq_false_iff_ne.2 fun e => hx.2 e.symm
    simp [Lib.indexByte, h1, h2]
  exact congrArg (fun z => Ending.returned (.int .i64 z)) hc
theorem ixr_sep {w : World} {x : UInt8} (hx : sepB x = true) :
    Calls Tryz.prog 143 #[.string ⟨#[44, 125]⟩, .int .i32 (x.toNat : Int)] w fun e w' => ∃ k : Int, 0 ≤ k ∧ e = .returned (.int .i64 k) ∧ Ext w w' := by
  have h : x = 44 ∨ x = 125 := by
    unfold sepB at hx
    simpa using hx
  have h8 : x.toNat < 128 := by rcases h with rfl | rfl <;> decide
  have := Any.strings_IndexRune_ascii (ρ := Tryz.lays153_ren) { Tryz.lays153 with } ⟨#[44, 125]⟩ (x.toNat : Int) w (by omega) (by omega)
  refine this.mono fun e w' ⟨h1, h2⟩ => ⟨_, ?_, h1, h2 ▸ Ext.refl w⟩
  have hb : ((x.toNat : Int)).toNat.toUInt8 = x := by simp
  rw [hb]
  rcases h with rfl | rfl
  · exact (show (0 : Int) ≤ Lib.indexByte [44, 125] 44 by decide)
  · exact (show (0 : Int) ≤ Lib.indexByte [44, 125] 125 by decide)
theorem Ext.iterAt {w W : World} (h : Ext w W) {k : Nat} (hk : w.heap.size ≤ k) (s : ByteArray) (p : Nat) : Ext w (W.iterAt k s p) :=
  ⟨h.os, h.tape, h.output, by have := h.size; simpa [World.iterAt] using this, fun g hg => by rw [Go.Lib.iterAt_other _ _ _ _ _ (by omega)]; exact h.block g hg⟩
theorem uas {w : World} {n : Int} {b : Bool} (h : decide (8 < n) = b) : Calls Tryz.prog 144 #[.int .i64 n] w fun e w' => e = .returned (.bool b) ∧ w = w' := by
  subst h
  exact (Any.strings_shouldUseASCIISet (ρ := Tryz.lays153_ren) { Tryz.lays153 with } n w).mono fun e w' ⟨h1, h2⟩ => ⟨h1, h2.symm⟩
theorem noAny_more {l ch : List UInt8} {i n : Nat} (h : Lib.NoAny l ch i) (hn : ∀ j b, i ≤ j → j < i + n → l[j]? = some b → ch.contains b = false) : Lib.NoAny l ch (i + n) := fun j b hj hb => by
  by_cases hji : j < i
  · exact h j b hji hb
  · exact hn j b (by omega) hj hb
theorem contains_sep (c : UInt8) : ([44, 125] : List UInt8).contains c = sepB c := by
  unfold sepB
  by_cases h1 : c = 44
  · subst h1; rfl
  · by_cases h2 : c = 125
    · subst h2; rfl
    · simp [h1, h2]
theorem sepB_high {c : UInt8} (h : 128 ≤ c.toNat) : sepB c = false := by
  unfold sepB
  simp only [Bool.or_eq_false_iff, beq_eq_false_iff_ne]
  constructor <;> (rintro rfl; revert h; decide)
set_option maxHeartbeats 4000000 in
set_option maxRecDepth 1000000 in
theorem idx_short {w : World} {l : List UInt8} (h8 : l.length ≤ 8) :
    Calls Tryz.prog 113 #[.string (bs l), .string ⟨#[44, 125]⟩] w fun e w' => e = .returned (.int .i64 (Lib.indexAny l [44, 125])) ∧ Ext w w' := by
  obtain ⟨s, hs⟩ : ∃ s, bs l = s := ⟨_, rfl⟩
  have HSL : Aside (s.data.toList = l) := ⟨by rw [← hs]; rfl⟩
  have HN : Aside (s.size = l.length) := ⟨by rw [← hs]; exact bs_size l⟩
  rw [hs]
  have HU : Aside (decide ((8 : Int) < (s.size : Int)) = false) := ⟨decide_eq_false (by rw [HN.out]; omega)⟩
  have hemp : (⟨#[44, 125]⟩ : ByteArray).toList.isEmpty = false := by rw [Lib.toList_data]; rfl
  clear hs h8
  go_enter Tryz.func113, Tryz.ntmps113
  go_wp2_with (go_at_call 144; (with_reducible refine (uas HU.out).mono ?_); rintro e w' ⟨rfl, rfl⟩)
  go_loopg [9, 10] s.size (fun g _ _ wx => ∃ i : Nat, i + g = s.size ∧ wx.heap[w.heap.size]? = some (.stringIter s i) ∧ Aside (Ext w wx) ∧ Aside (Lib.NoAny l [44, 125] i))
  case atStart => exact ⟨0, by omega, by simp [World.iter_heap], ⟨(Ext.refl w).alloc _⟩, ⟨Lib.NoAny.zero _ _⟩⟩
  case round =>
    obtain ⟨i, hig, hk, HE, HNA⟩ := hrel
    cases gk with
    | zero =>
      have hi : ¬ i < s.size := by omega
      have HF : Aside (Lib.indexAny l [44, 125] = -1) := ⟨Lib.indexAny_none (by rw [← HN.out, ← (show i = s.size from by omega)]; exact HNA.out)⟩
      have hnx := fun ty => Go.Lib.run_next_end_at (P := Tryz.prog) wr w.heap.size s i ty hk hi
      go_wp2
      go_ret
      exact ⟨by rw [HF.out]; rfl, HE.out⟩
    | succ g =>
      have hi : i < s.size := by omega
      obtain ⟨x, hx⟩ : ∃ x : UInt8, s[i]'hi = x := ⟨_, rfl⟩
      have Hx : Aside (l[i]? = some x) := ⟨by rw [← HSL.out, ← hx]; exact Lib.data_getElem? s i hi⟩
      by_cases ha : x.toNat < 128
      · have hnx := fun ty => Go.Lib.run_next_ascii_at (P := Tryz.prog) wr w.heap.size s i ty hk hi (by rw [hx]; exact ha)
        rw [hx] at hnx
        have hk1 := Go.Lib.iterAt_heap wr w.heap.size s i (i + 1) hk
        have hlt0 : w.heap.size < (wr.iterAt w.heap.size s (i + 1)).heap.size := (Array.getElem?_eq_some_iff.1 hk1).1
        have HE1 : Aside (Ext w (wr.iterAt w.heap.size s (i + 1))) := ⟨HE.out.iterAt (Nat.le_refl _) _ _⟩
        have HA := Aside.mk ha
        have HIG : Aside (i + 1 + g = s.size) := ⟨by omega⟩
        obtain ⟨b, hb⟩ : ∃ b, sepB x = b := ⟨_, rfl⟩
        have HS := Aside.mk hb
        clear hx hk ha hb hig
        cases b
        · have HN2 : Aside (Lib.NoAny l [44, 125] (i + 1)) := ⟨HNA.out.succ Hx.out (by rw [contains_sep]; exact HS.out)⟩
          go_wp2_with (go_at_call 143; (with_reducible refine (ixr_ascii HA.out HS.out).mono ?_); rintro e w2 ⟨rfl, he⟩; have HE2 := Aside.mk he; have hk2 := (he.block _ hlt0).trans hk1; clear he)
          go_roundg g
          case measure => omega
          case rel => exact ⟨i + 1, HIG.out, hk2, ⟨HE1.out.trans HE2.out⟩, HN2⟩
        · have HF : Aside (Lib.indexAny l [44, 125] = (i : Int)) := ⟨Lib.indexAny_hit HNA.out Hx.out (by rw [contains_sep]; exact HS.out)⟩
          go_wp2_with (go_at_call 143; (with_reducible refine (ixr_sep HS.out).mono ?_); rintro e w2 ⟨kk, hkk, rfl, he⟩; have HE2 := Aside.mk he; clear he)
          go_ret
          exact ⟨by rw [HF.out]; rfl, HE1.out.trans HE2.out⟩
      · have hh : 128 ≤ (s[i]'hi).toNat := by rw [hx]; omega
        obtain ⟨hr1, hr2⟩ := decode_high s i hi hh
        have hby := decode_bytes s i hi hh
        have hnx := fun ty => Go.Lib.run_next_any_at (P := Tryz.prog) wr w.heap.size s i ty hk hi
        generalize hdc : Utf8.decode s i = dc at *
        obtain ⟨r, n⟩ := dc
        simp only at hr1 hr2 hby hnx
        have HR : Aside (128 ≤ (r : Int)) := ⟨by omega⟩
        have hin : i + n ≤ s.size := by
          obtain ⟨hj, _⟩ := hby (i + n - 1) (by omega) (by omega)
          omega
        have hk1 := Go.Lib.iterAt_heap wr w.heap.size s i (i + n) hk
        have hlt0 : w.heap.size < (wr.iterAt w.heap.size s (i + n)).heap.size := (Array.getElem?_eq_some_iff.1 hk1).1
        have HE1 : Aside (Ext w (wr.iterAt w.heap.size s (i + n))) := ⟨HE.out.iterAt (Nat.le_refl _) _ _⟩
        have HN2 : Aside (Lib.NoAny l [44, 125] (i + n)) := ⟨noAny_more HNA.out fun j b h1 h2 hb => by
          obtain ⟨hj, h128⟩ := hby j h1 h2
          have : l[j]? = some (s[j]'hj) := by rw [← HSL.out]; exact Lib.data_getElem? s j hj
          rw [this] at hb
          obtain rfl := Option.some.inj hb
          rw [contains_sep]; exact sepB_high h128⟩
        have HIG : Aside (i + n + (s.size - (i + n)) = s.size ∧ s.size - (i + n) < g + 1) := ⟨by omega⟩
        clear hx hk ha hig hh hby hdc hin hr1 hr2
        go_wp2_with (go_at_call 143; (with_reducible refine (ixr_high HR.out).mono ?_); rintro e w2 ⟨rfl, he⟩; have HE2 := Aside.mk he; have hk2 := (he.block _ hlt0).trans hk1; clear he)
        go_roundg (s.size - (i + n))
        case measure => have := HIG.out.2; omega
        case rel => exact ⟨i + n, HIG.out.1, hk2, ⟨HE1.out.trans HE2.out⟩, HN2⟩
theorem ia_all : IA (fun _ => True) where
  drop _ _ _ := trivial
  calls l w _ hl := by
    by_cases h8 : l.length ≤ 8
    · exact idx_short h8
    · have h116 : (Tryz.prog.info? (Tryz.lays153_ren.t 116)).map (fun i => (i.zero, i.size)) = some (some (.agg (Array.replicate 256 (.bool false))), 256) := by kernel_rfl
      refine (Any.strings_IndexAny_long (ρ := Tryz.lays153_ren) Tryz.lays153 (zero_of_info h116).1 (zero_of_info h116).2 (bs l) ⟨#[44, 125]⟩ w (by decide) (by rw [bs_size]; omega) (by rw [bs_size]; omega) (by decide) (fun j b hb => by
        have : b ∈ ([44, 125] : List UInt8) := List.mem_of_getElem? hb
        simp only [List.mem_cons, List.not_mem_nil, or_false] at this
        rcases this with rfl | rfl <;> decide)).mono fun e w' ⟨h1, h2⟩ => ⟨h1, ?_⟩
      rw [h2]
      exact ((Ext.refl w).alloc _).alloc _
end Go.Proofs.YtcbaipnphepbeaaGreatDoor
