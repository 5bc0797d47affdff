/- Contracts of frac.digits and frac.Decimal. -/
import Derived.Test.YtgfkachfbnbikaaGreatDoorFracP
import Derived.Shelf.Strings.SlTrimAscii
namespace Go.Proofs.YtgfkachfbnbikaaGreatDoor
open Go.RowKit

/-- Decimal digits, at least one. -/
def isDs (l : List UInt8) : Bool := !l.isEmpty && l.all isd
def digB : ByteArray := ⟨#[48, 49, 50, 51, 52, 53, 54, 55, 56, 57]⟩
set_option maxRecDepth 100000 in
theorem contains_isd (c : UInt8) : digB.data.toList.contains c = isd c := by
  have h : ∀ n : Fin 256, digB.data.toList.contains (UInt8.ofNat n.val) = isd (UInt8.ofNat n.val) := by decide
  have := h ⟨c.toNat, c.toNat_lt⟩
  simpa using this
theorem dropWhile_nil {p : UInt8 → Bool} {l : List UInt8} : l.dropWhile p = [] ↔ l.all p = true := by
  induction l with
  | nil => simp
  | cons x xs ih =>
    rw [List.dropWhile_cons]
    cases hp : p x
    · simp [hp]
    · simp [hp, ih]
theorem dropWhile_all {p : UInt8 → Bool} {l : List UInt8} : (l.dropWhile p).all p = l.all p := by
  induction l with
  | nil => simp
  | cons x xs ih =>
    rw [List.dropWhile_cons]
    cases hp : p x
    · simp [hp]
    · simp [hp, ih]
theorem trimS_nil (l : List UInt8) : (Lib.trimS l digB.data.toList = []) ↔ l.all isd = true := by
  have e : (fun c => digB.data.toList.contains c) = isd := funext contains_isd
  unfold Lib.trimS Lib.trimLeftS Lib.trimRightS
  rw [e, dropWhile_nil, List.all_reverse, dropWhile_all, List.all_reverse]

theorem h127 : (Tryz.prog.info? 126).map (fun i => (i.zero, i.size)) = some (some (.agg (Array.replicate 256 (.bool false))), 256) := by kernel_rfl
theorem digB_ascii : digB.data.toList.all (fun b => decide (b.toNat < 128)) = true := by decide
theorem digB_size : digB.size < 4294967281 := by rw [show digB.size = 10 from rfl]; omega
set_option maxRecDepth 100000 in
theorem trim_digits (s : ByteArray) (w : World) (hs : s.size ≤ 1073741824) :
    Calls Tryz.prog 132 #[.string s, .string digB] w fun e w' => e = .returned (.string ⟨(Lib.trimS s.data.toList digB.data.toList).toArray⟩) ∧ Below w.heap.size w w' :=
  Any.strings_Trim_laid Tryz.lays160 h127 s digB w (by omega) digB_size (ascii_of_all digB_ascii)

theorem digits_calls {w : World} {s : ByteArray} {b : Bool} (hs : s.size ≤ 1073741824) (hb : isDs s.data.toList = b) :
    Calls Tryz.prog 83 #[.string s] w fun e w' => e = .returned (.bool b) ∧ Ext w w' := by
  subst hb
  unfold isDs
  have HS := Aside.mk hs
  cases he : s.data.toList.isEmpty
  · have hemp : s.toList.isEmpty = false := by rw [Lib.toList_data]; exact he
    obtain ⟨t, ht⟩ : ∃ t : ByteArray, (⟨(Lib.trimS s.data.toList digB.data.toList).toArray⟩ : ByteArray) = t := ⟨_, rfl⟩
    have hte : t.toList.isEmpty = s.data.toList.all isd := by
      rw [Lib.toList_data, ← ht, mk_toList]
      cases ha : s.data.toList.all isd
      · cases hh : Lib.trimS s.data.toList digB.data.toList
        · rw [trimS_nil] at hh; rw [hh] at ha; cases ha
        · rfl
      · rw [(trimS_nil _).2 ha]; rfl
    have HT := Aside.mk ht
    generalize s.data.toList.all isd = d at *
    clear he hs ht
    go_enter Tryz.func83, Tryz.ntmps83
    go_wp2_with (go_at_call 132; refine (trim_digits s _ HS.out).mono ?_; rintro e w' ⟨rfl, he⟩; rw [HT.out]; have HE := Aside.mk he; clear he)
    go_ret
    exact ⟨by simp, HE.out⟩
  · have hemp : s.toList.isEmpty = true := by rw [Lib.toList_data]; exact he
    clear he hs
    go_enter Tryz.func83, Tryz.ntmps83
    go_wp2
    go_ret
    exact ⟨by simp, Ext.refl w⟩

theorem dval_cons_zero (l : List UInt8) : dval (48 :: l) = dval l := by simp [dval]
theorem dval_dropWhile (l : List UInt8) : dval (l.dropWhile (· == 48)) = dval l := by
  induction l with
  | nil => rfl
  | cons x xs ih =>
    rw [List.dropWhile_cons]
    split
    · rename_i h
      have : x = 48 := by simpa using h
      rw [ih, this, dval_cons_zero]
    · rfl
/-- A text of digits without zeros ahead: at least one digit. -/
def shown (l : List UInt8) : List UInt8 := if Lib.trimLeftB l 48 = [] then [48] else Lib.trimLeftB l 48
theorem dropWhile_sub (p : UInt8 → Bool) (l : List UInt8) : ∃ k, l.dropWhile p = l.drop k := by
  induction l with
  | nil => exact ⟨0, rfl⟩
  | cons x xs ih =>
    rw [List.dropWhile_cons]
    split
    · obtain ⟨k, hk⟩ := ih; exact ⟨k + 1, hk⟩
    · exact ⟨0, rfl⟩
theorem all_drop {l : List UInt8} (h : l.all isd = true) (k : Nat) : (l.drop k).all isd = true := by
  rw [List.all_eq_true] at h ⊢
  intro c hc; exact h c (List.mem_of_mem_drop hc)
theorem dropWhile_head {l t : List UInt8} {c : UInt8} (h : l.dropWhile (· == 48) = c :: t) : c ≠ 48 := by
  induction l with
  | nil => cases h
  | cons x xs ih =>
    rw [List.dropWhile_cons] at h
    split at h
    · exact ih h
    · rename_i hx
      injection h with h1 h2
      subst h1
      simpa using hx
theorem shown_ok {l : List UInt8} (h : l.all isd = true) (hl : l.length ≤ 4900) : perr (shown l) = 0 ∧ dval (shown l) = dval l := by
  unfold shown
  obtain ⟨k, hk⟩ := dropWhile_sub (· == 48) l
  split
  · rename_i h0
    have := dval_dropWhile l
    rw [show l.dropWhile (· == 48) = [] from h0] at this
    exact ⟨rfl, this⟩
  · rename_i h0
    have e : Lib.trimLeftB l 48 = l.dropWhile (· == 48) := rfl
    rw [e] at h0 ⊢
    refine ⟨?_, dval_dropWhile l⟩
    unfold perr
    rw [if_neg (by rw [hk, List.length_drop]; omega), if_neg, if_pos (by rw [hk]; exact all_drop h k)]
    rintro (h1 | ⟨h1, h2⟩)
    · exact h0 h1
    · cases hd : l.dropWhile (· == 48) with
      | nil => exact h0 hd
      | cons c t =>
        rw [hd] at h1
        exact dropWhile_head hd (by simpa using h1)
theorem dval_ones (n : Nat) : dval (49 :: List.replicate n 48) = 10 ^ n := by
  induction n with
  | zero => rfl
  | succ n ih =>
    rw [List.replicate_succ', ← List.cons_append, dval_snoc, ih, Nat.pow_succ]
    show 10 * 10 ^ n + (48 - 48) = _
    omega
theorem perr_ones {n : Nat} (h : n < 4900) : perr (49 :: List.replicate n 48) = 0 := by
  unfold perr
  rw [if_neg (by simp; omega), if_neg (by simp), if_pos]
  rw [List.all_eq_true]
  intro c hc
  rcases List.mem_cons.1 hc with rfl | hc
  · rfl
  · rw [(List.mem_replicate.1 hc).2]; rfl
theorem repeat_one (n : Nat) : Lib.repeatL [48] n = List.replicate n 48 := by
  induction n with
  | zero => rfl
  | succ n ih => rw [List.replicate_succ, ← ih]; rfl
/-- What Decimal makes of the digits ahead of the point and behind it. -/
def fdecParts (above below : List UInt8) : Rq × Int := if (ratio false (dval (above ++ below)) (10 ^ below.length)).f = 0 then (ratio false (dval (above ++ below)) (10 ^ below.length), 0) else (fq 0, 4)
/-- What Decimal returns. -/
def fdec (l : List UInt8) : Rq × Int :=
  if 4900 < l.length then (fq 0, 3)
  else if isDs (Lib.cut l [46]).1 && (!(Lib.cut l [46]).2.2 || isDs (Lib.cut l [46]).2.1) then fdecParts (Lib.cut l [46]).1 (Lib.trimRightB (Lib.cut l [46]).2.1 48)
  else (fq 0, 5)
theorem make_ok {w : World} {neg : Bool} {x y : Value} {a b : Nat} {q : Rq} (hx : NV w x a) (hy : NV w y b) (hq : ratio neg a b = q) :
    Calls Tryz.prog 20 #[.bool neg, x, y] w fun e w' => ∃ r, e = .returned (.tuple #[r, .int .i64 0]) ∧ RO w.heap.size w' r q ∧ Ext w w' := by
  subst hq
  refine (Make_calls hx.1 hy.1).mono ?_
  rintro e w' ⟨h, he⟩
  rw [if_pos ⟨natErr_dig0 hx.2, natErr_dig0 hy.2⟩, val_dig, val_dig] at h
  obtain ⟨r, h1, h2⟩ := h
  exact ⟨r, h1, h2, he⟩
end Go.Proofs.YtgfkachfbnbikaaGreatDoor
