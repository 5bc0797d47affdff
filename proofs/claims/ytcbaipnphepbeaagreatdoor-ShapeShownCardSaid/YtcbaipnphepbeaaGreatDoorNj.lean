/- The plain law of texts: Parse of the text of a Rat is the Rat, and a text that Parse takes is the text of its Rat; the specification's Parse and Decimal find the same. Contracts of fluxionref01.Parse, and of fluxionref02: cut, FaultText, Text. Contracts of fluxionref02: Text, Parse. -/
import Derived.Test.YtcbaipnphepbeaaGreatDoorNg
import Derived.Test.YtcbaipnphepbeaaGreatDoorNi
import Derived.Test.YtcbaipnphepbeaaGreatDoorNh
import Derived.Test.YtcbaipnphepbeaaGreatDoorNe
import Derived.Deep.QuietTactic
import Derived.BigQuiet
namespace Go.Proofs.YtcbaipnphepbeaaGreatDoor
open Go.RowKit

theorem cut_cons (b c : UInt8) (l : List UInt8) : Lib.cut (b :: l) [c] = if b = c then ([], l, true) else (b :: (Lib.cut l [c]).1, (Lib.cut l [c]).2.1, (Lib.cut l [c]).2.2) := by
  by_cases h : b = c
  · subst h
    have e : Lib.index (b :: l) [b] = 0 := by unfold Lib.index; simp [List.isPrefixOf]
    unfold Lib.cut
    rw [e]; simp
  · have h' : ¬ c = b := fun e => h e.symm
    have e : Lib.index (b :: l) [c] = if Lib.index l [c] == -1 then -1 else Lib.index l [c] + 1 := by
      conv => lhs; unfold Lib.index
      simp [List.isPrefixOf, h']
    have hg := Lib.index_ge l [c]
    unfold Lib.cut
    rw [e, if_neg h]
    by_cases h1 : Lib.index l [c] = -1
    · rw [h1]; rfl
    · have h2 : (Lib.index l [c] == -1) = false := beq_eq_false_iff_ne.2 h1
      obtain ⟨k, hk⟩ : ∃ k : Nat, Lib.index l [c] = k := ⟨(Lib.index l [c]).toNat, by omega⟩
      rw [h2, hk]
      have e3 : ((k : Int) + 1).toNat = k + 1 := by omega
      simp only [Bool.false_eq_true, if_false]
      rw [if_pos (show (0 : Int) ≤ (k : Int) + 1 by omega), if_pos (show (0 : Int) ≤ (k : Int) by omega), e3]
      simp
theorem cut_none {l : List UInt8} {c : UInt8} (h : ∀ x ∈ l, x ≠ c) : Lib.cut l [c] = (l, [], false) := by
  induction l with
  | nil => rfl
  | cons b l ih =>
    rw [cut_cons, if_neg (h b List.mem_cons_self), ih fun x hx => h x (List.mem_cons_of_mem _ hx)]
theorem cut_at {l r : List UInt8} {c : UInt8} (h : ∀ x ∈ l, x ≠ c) : Lib.cut (l ++ c :: r) [c] = (l, r, true) := by
  induction l with
  | nil => rw [List.nil_append, cut_cons, if_pos rfl]
  | cons b l ih =>
    rw [List.cons_append, cut_cons, if_neg (h b List.mem_cons_self), ih fun x hx => h x (List.mem_cons_of_mem _ hx)]
theorem cut_back (l : List UInt8) (c : UInt8) : l = (Lib.cut l [c]).1 ++ (if (Lib.cut l [c]).2.2 then c :: (Lib.cut l [c]).2.1 else []) := by
  induction l with
  | nil => rfl
  | cons b l ih =>
    rw [cut_cons]
    split
    · rename_i h; subst h; rfl
    · show b :: l = b :: ((Lib.cut l [c]).1 ++ _)
      rw [← ih]

/-- The text of a Rat. -/
def rtext (q : Rq) : List UInt8 := if q.f = 0 then ntext q.neg (val q.num) (val q.den) else (faultB q.f).data.toList
theorem isd_ne {c d : UInt8} (h : isd c = true) (hd : isd d = false) : c ≠ d := fun e => by rw [e, hd] at h; cases h
theorem dtext_no (a : Nat) {d : UInt8} (hd : isd d = false) : ∀ x ∈ dtext a, x ≠ d := fun x hx => isd_ne (List.all_eq_true.1 (dtext_all a) x hx) hd
theorem dtext_cons (a : Nat) : ∃ c l, dtext a = c :: l ∧ isd c = true := by
  cases h : dtext a with
  | nil => exact absurd h (dtext_ne a)
  | cons c l =>
    refine ⟨c, l, rfl, ?_⟩
    have := dtext_all a
    rw [h] at this
    exact List.all_eq_true.1 this c List.mem_cons_self
theorem ntext_parts (neg : Bool) (a b : Nat) : Lib.hasPrefix (ntext neg a b) [45] = neg ∧ Lib.trimPrefix (ntext neg a b) [45] = dtext a ++ (if b = 1 then [] else 47 :: dtext b) ∧ ntext neg a b ≠ rangeB.data.toList ∧ ntext neg a b ≠ zeroB.data.toList := by
  obtain ⟨c, l, hc, hd⟩ := dtext_cons a
  have hr : rangeB.data.toList = 33 :: [114, 97, 110, 103, 101] := rfl
  have hz : zeroB.data.toList = 33 :: [122, 101, 114, 111] := rfl
  have h45 := isd_ne hd (show isd 45 = false by decide)
  have h33 := isd_ne hd (show isd 33 = false by decide)
  unfold ntext Lib.trimPrefix Lib.hasPrefix
  rw [hc, hr, hz]
  cases neg
  · have e : ¬ 45 = c := fun e => h45 e.symm
    refine ⟨by simp [List.isPrefixOf, e], by simp [List.isPrefixOf, e], ?_, ?_⟩
    · intro h; simp at h; exact h33 h.1
    · intro h; simp at h; exact h33 h.1
  · refine ⟨by simp [List.isPrefixOf], by simp [List.isPrefixOf], ?_, ?_⟩
    · intro h; simp at h
    · intro h; simp at h
theorem ntext_cut (a b : Nat) : Lib.cut (dtext a ++ (if b = 1 then [] else 47 :: dtext b)) [47] = (dtext a, if b = 1 then [] else dtext b, decide (b ≠ 1)) := by
  have h := dtext_no a (show isd 47 = false by decide)
  by_cases hb : b = 1
  · rw [if_pos hb, if_pos hb, List.append_nil, cut_none h]; simp [hb]
  · rw [if_neg hb, if_neg hb, cut_at h]; simp [hb]
theorem dtext_one : dtext 1 = [49] := by
  unfold dtext
  rw [if_neg (by decide), d10_pos (by decide), show (1 : Nat) / 10 = 0 from rfl, d10_zero]; rfl
/-- Parse of the text of a Rat is the Rat. -/
theorem parse_text {q : Rq} (h : okq q = true) (hd : Ds q.num ∧ Ds q.den) (hl : (rtext q).length ≤ 4900) : fparse (rtext q) = (q, 0) := by
  by_cases hf : q.f = 0
  · have k := okq_ds h hf hd
    obtain ⟨a, ha⟩ : ∃ a, val q.num = a := ⟨_, rfl⟩
    obtain ⟨b, hb⟩ : ∃ b, val q.den = b := ⟨_, rfl⟩
    rw [ha, hb] at k
    have e : rtext q = ntext q.neg a b := by unfold rtext; rw [if_pos hf, ha, hb]
    rw [e] at hl ⊢
    obtain ⟨h1, h2, h3, h4⟩ := ntext_parts q.neg a b
    have hlen : (ntext q.neg a b).length = (if q.neg then 1 else 0) + (dtext a).length + (if b = 1 then 0 else 1 + (dtext b).length) := by
      unfold ntext
      split <;> split <;> simp [*] <;> omega
    have hla : (dtext a).length ≤ 4900 := by omega
    have hbt : (if b = 1 then [49] else dtext b) = dtext b := by
      split
      · rename_i hb1; rw [hb1, dtext_one]
      · rfl
    have hlb : (dtext b).length ≤ 4900 := by
      by_cases hb1 : b = 1
      · rw [hb1, dtext_one]; decide
      · rw [if_neg hb1] at hlen; omega
    unfold fparse
    rw [if_neg (by omega), if_neg h3, if_neg h4, h1, h2, ntext_cut]
    have e2 : (if decide (b ≠ 1) = true then (if b = 1 then [] else dtext b) else [49]) = dtext b := by
      by_cases hb1 : b = 1
      · simp [hb1, dtext_one]
      · simp [hb1]
    dsimp only
    rw [e2]
    unfold fparts
    have hp := k.pos
    have hne : ¬ (decide (b ≠ 1) = true ∧ dtext b = [49]) := by
      rintro ⟨h5, h6⟩
      have h7 := dval_dtext b
      rw [h6] at h7
      simp at h5
      exact h5 (h7.symm.trans rfl)
    rw [perr_dtext hla, perr_dtext hlb, dval_dtext, dval_dtext, if_neg]
    · have eq : (⟨0, q.neg, dig a, dig b⟩ : Rq) = q := by
        have := k.f; have := k.num; have := k.den
        cases q; simp_all
      rw [eq, h]; rfl
    · rintro (h5 | h5 | h5 | h5)
      · exact h5 rfl
      · exact h5 rfl
      · omega
      · exact hne h5
  · have e : rtext q = (faultB q.f).data.toList := if_neg hf
    have hq := okq_fq h hf
    have h4 := okq_f h
    rw [e]
    unfold faultB
    by_cases h5 : q.f = 4
    · rw [if_pos h5]
      have : fparse rangeB.data.toList = (fq 4, 0) := by decide
      rw [this, hq, h5]
    · rw [if_neg h5]
      have h6 : q.f = 11 := by omega
      have : fparse zeroB.data.toList = (fq 11, 0) := by decide
      rw [this, hq, h6]
/-- A text that Parse takes is that of its Rat. -/
theorem text_parse {l : List UInt8} {q : Rq} (h : fparse l = (q, 0)) : okq q = true ∧ Ds q.num ∧ Ds q.den ∧ rtext q = l ∧ l.length ≤ 4900 := by
  unfold fparse at h
  split at h
  · injection h with _ h; exact absurd h (by decide)
  · rename_i hl
    split at h
    · rename_i h1
      injection h with h _
      subst h
      refine ⟨rfl, Ds.nil, Ds.nil, ?_, by omega⟩
      rw [h1]; rfl
    · split at h
      · rename_i h1
        injection h with h _
        subst h
        refine ⟨rfl, Ds.nil, Ds.nil, ?_, by omega⟩
        rw [h1]; rfl
      · obtain ⟨x, hx⟩ : ∃ x, Lib.trimPrefix l [45] = x := ⟨_, rfl⟩
        obtain ⟨n, hn⟩ : ∃ n, Lib.hasPrefix l [45] = n := ⟨_, rfl⟩
        have hb := cut_back x 47
        rw [hx, hn] at h
        obtain ⟨⟨p, r, t⟩, hc⟩ : ∃ c, Lib.cut x [47] = c := ⟨_, rfl⟩
        rw [hc] at h hb
        dsimp only at h hb
        have hs : l = (if n then [45] else []) ++ x := by
          subst hx hn
          unfold Lib.trimPrefix Lib.hasPrefix
          cases l with
          | nil => simp [List.isPrefixOf]
          | cons c l =>
            by_cases e : 45 = c
            · subst e; simp [List.isPrefixOf]
            · simp [List.isPrefixOf, e]
        obtain ⟨bl, hbl⟩ : ∃ bl, (if t = true then r else [49]) = bl := ⟨_, rfl⟩
        rw [hbl] at h
        unfold fparts at h
        split at h
        · injection h with _ h; exact absurd h (by decide)
        · rename_i h0
          simp only [not_or, Decidable.not_not] at h0
          obtain ⟨h01, h02, h03, h04⟩ := h0
          split at h
          · rename_i hok
            injection h with h _
            subst h
            refine ⟨hok, ds_dig _, ds_dig _, ?_, by omega⟩
            unfold rtext ntext
            rw [if_pos rfl]
            show (if n then [45] else []) ++ dtext (val (dig (dval p))) ++ _ = l
            rw [val_dig, val_dig, dtext_dval h01, dtext_dval h02, hs, hb, List.append_assoc]
            congr 2
            cases t
            · subst hbl; rfl
            · have hbl : r = bl := hbl
              subst hbl
              have h05 : r ≠ [49] := fun e => h04 ⟨rfl, e⟩
              have h06 : dval r ≠ 1 := fun e => by
                have := dtext_dval (l := r) h02
                rw [e, dtext_one] at this
                exact h05 this.symm
              show (if dval r = 1 then [] else 47 :: r) = 47 :: r
              rw [if_neg h06]
          · injection h with _ h; exact absurd h (by decide)
end Go.Proofs.YtcbaipnphepbeaaGreatDoor

namespace Go.Proofs.YtcbaipnphepbeaaGreatDoor
open Go.RowKit

theorem ext_drop (s : ByteArray) (k : Nat) : s.extract k s.size = ⟨(s.data.toList.drop k).toArray⟩ := by
  apply ByteArray.ext
  rw [ByteArray.data_extract]
  apply Array.toList_inj.1
  have h := Lib.size_eq s
  rw [Array.toList_extract, List.extract_eq_drop_take']
  rw [List.take_of_length_le (by omega)]
end Go.Proofs.YtcbaipnphepbeaaGreatDoor

namespace Go.Proofs.YtcbaipnphepbeaaGreatDoor
open Go.RowKit

/-! Parse -/
/-- How the text begins. -/
def Begins (s s1 : ByteArray) (nb : Bool) : Prop :=
  (∃ h : 0 < s.size, (((s[0]'h).toNat : Int) == 45) = true ∧ s.extract 1 s.size = s1 ∧ nb = true) ∨ (s = ⟨#[]⟩ ∧ s1 = s ∧ nb = false) ∨ (∃ h : 0 < s.size, (((s[0]'h).toNat : Int) == 45) = false ∧ s1 = s ∧ nb = false)
theorem begins (s : ByteArray) : ∃ s1 nb, Begins s s1 nb ∧ Lib.hasPrefix s.data.toList [45] = nb ∧ Lib.trimPrefix s.data.toList [45] = s1.data.toList := by
  have hsz : s.data.toList.length = s.size := (Lib.size_eq s).symm
  rcases Nat.eq_zero_or_pos s.size with h0 | h0
  · have hs0 : s = ⟨#[]⟩ := by
      rw [← Lib.mk_data s, List.eq_nil_of_length_eq_zero (hsz.trans h0)]
    exact ⟨s, false, .inr (.inl ⟨hs0, rfl, rfl⟩), by subst hs0; rfl, by subst hs0; rfl⟩
  · have hd0 : s.data.toList[0]? = some s[0] := Lib.data_getElem? s 0 h0
    cases hl : s.data.toList with
    | nil => rw [hl] at hd0; cases hd0
    | cons c l =>
      rw [hl] at hd0
      have hc : c = s[0] := by simpa using hd0
      by_cases h45 : c = 45
      · refine ⟨s.extract 1 s.size, true, .inl ⟨h0, by rw [← hc, h45]; rfl, rfl, rfl⟩, ?_, ?_⟩
        · subst h45; rfl
        · rw [ext_drop, mk_toList, hl]; subst h45; rfl
      · have hn : Lib.hasPrefix (c :: l) [45] = false := by
          unfold Lib.hasPrefix
          have : ¬ 45 = c := fun e => h45 e.symm
          simp [List.isPrefixOf, this]
        refine ⟨s, false, .inr (.inr ⟨h0, ?_, rfl, rfl⟩), hn, ?_⟩
        · rw [beq_eq_false_iff_ne, ← hc]
          intro h
          apply h45
          apply UInt8.toNat_inj.1
          have : (45 : UInt8).toNat = 45 := rfl
          omega
        · unfold Lib.trimPrefix; rw [hn, hl]; rfl
end Go.Proofs.YtcbaipnphepbeaaGreatDoor
