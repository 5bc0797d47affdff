/- The plain law of texts: Parse of the text of a Rat is the Rat, and a text that Parse takes is the text of its Rat; the specification's Parse and Decimal find the same. Contracts of fluxionref01.Parse, and of fluxionref02: cut, FaultText, Text. Contracts of fluxionref02: Text, Parse. -/
import Derived.Test.YtcbaipnphepbeaaGreatDoorNg
import Derived.Test.YtcbaipnphepbeaaGreatDoorNi
import Derived.Test.YtcbaipnphepbeaaGreatDoorNh
import Derived.Test.YtcbaipnphepbeaaGreatDoorNe
import Derived.Deep.QuietTactic
import Derived.BigQuiet
namespace Go.Proofs.YtcbaipnphepbeaaGreatDoor
open Go.RowKit

theorem cut_cons (b c : UInt8) (l : List UInt8) : Lib.cut (b :: l) [c] = if b = c then ([], l, true) else (b :: (Lib.cut l [c]).1, (Lib.cut l [c]).2.1, (Lib.cut l [c]).2.2) := by
  by_cases h : b = c
  · subst h
    have e : Lib.index (b :: l) [b] = 0 := by unfold Lib.index; simp [List.isPrefixOf]
    unfold Lib.cut
    rw [e]; simp
  · have h' : ¬ c = b := fun e => h e.symm
    have e : Lib.index (b :: l) [c] = if Lib.index l [c] == -1 then -1 else Lib.index l [c] + 1 := by
      conv => lhs; unfold Lib.index
      simp [List.isPrefixOf, h']
    have hg := Lib.index_ge l [c]
    unfold Lib.cut
    rw [e, if_neg h]
    by_cases h1 : Lib.index l [c] = -1
    · rw [h1]; rfl
    · have h2 : (Lib.index l [c] == -1) = false := beq_eq_false_iff_ne.2 h1
      obtain ⟨k, hk⟩ : ∃ k : Nat, Lib.index l [c] = k := ⟨(Lib.index l [c]).toNat, by omega⟩
      rw [h2, hk]
      have e3 : ((k : Int) + 1).toNat = k + 1 := by omega
      simp only [Bool.false_eq_true, if_false]
      rw [if_pos (show (0 : Int) ≤ (k : Int) + 1 by omega), if_pos (show (0 : Int) ≤ (k : Int) by omega), e3]
      simp
theorem cut_none {l : List UInt8} {c : UInt8} (h : ∀ x ∈ l, x ≠ c) : Lib.cut l [c] = (l, [], false) := by
  induction l with
  | nil => rfl
  | cons b l ih =>
    rw [cut_cons, if_neg (h b List.mem_cons_self), ih fun x hx => h x (List.mem_cons_of_mem _ hx)]
theorem cut_at {l r : List UInt8} {c : UInt8} (h : ∀ x ∈ l, x ≠ c) : Lib.cut (l ++ c :: r) [c] = (l, r, true) := by
  induction l with
  | nil => rw [List.nil_append, cut_cons, if_pos rfl]
  | cons b l ih =>
    rw [List.cons_append, cut_cons, if_neg (h b List.mem_cons_self), ih fun x hx => h x (List.mem_cons_of_mem _ hx)]
theorem cut_back (l : List UInt8) (c : UInt8) : l = (Lib.cut l [c]).1 ++ (if (Lib.cut l [c]).2.2 then c :: (Lib.cut l [c]).2.1 else []) := by
  induction l with
  | nil => rfl
  | cons b l ih =>
    rw [cut_cons]
    split
    · rename_i h; subst h; rfl
    · show b :: l = b :: ((Lib.cut l [c]).1 ++ _)
      rw [← ih]

/-- The text of a Rat. -/
def rtext (q : Rq) : List UInt8 := if q.f = 0 then ntext q.neg (val q.num) (val q.den) else (faultB q.f).data.toList
theorem isd_ne {c d : UInt8} (h : isd c = true) (hd : isd d = false) : c ≠ d := fun e => by rw [e, hd] at h; cases h
theorem dtext_no (a : Nat) {d : UInt8} (hd : isd d = false) : ∀ x ∈ dtext a, x ≠ d := fun x hx => isd_ne (List.all_eq_true.1 (dtext_all a) x hx) hd
theorem dtext_cons (a : Nat) : ∃ c l, dtext a = c :: l ∧ isd c = true := by
  cases h : dtext a with
  | nil => exact absurd h (dtext_ne a)
  | cons c l =>
    refine ⟨c, l, rfl, ?_⟩
    have := dtext_all a
    rw [h] at this
    exact List.all_eq_true.1 this c List.mem_cons_self
theorem ntext_parts (neg : Bool) (a b : Nat) : Lib.hasPrefix (ntext neg a b) [45] = neg ∧ Lib.trimPrefix (ntext neg a b) [45] = dtext a ++ (if b = 1 then [] else 47 :: dtext b) ∧ ntext neg a b ≠ rangeB.data.toList ∧ ntext neg a b ≠ zeroB.data.toList := by
  obtain ⟨c, l, hc, hd⟩ := dtext_cons a
  have hr : rangeB.data.toList = 33 :: [114, 97, 110, 103, 101] := rfl
  have hz : zeroB.data.toList = 33 :: [122, 101, 114, 111] := rfl
  have h45 := isd_ne hd (show isd 45 = false by decide)
  have h33 := isd_ne hd (show isd 33 = false by decide)
  unfold ntext Lib.trimPrefix Lib.hasPrefix
  rw [hc, hr, hz]
  cases neg
  · have e : ¬ 45 = c := fun e => h45 e.symm
    refine ⟨by simp [List.isPrefixOf, e], by simp [List.isPrefixOf, e], ?_, ?_⟩
    · intro h; simp at h; exact h33 h.1
    · intro h; simp at h; exact h33 h.1
  · refine ⟨by simp [List.isPrefixOf], by simp [List.isPrefixOf], ?_, ?_⟩
    · intro h; simp at h
    · intro h; simp at h
theorem ntext_cut (a b : Nat) : Lib.cut (dtext a ++ (if b = 1 then [] else 47 :: dtext b)) [47] = (dtext a, if b = 1 then [] else dtext b, decide (b ≠ 1)) := by
  have h := dtext_no a (show isd 47 = false by decide)
  by_cases hb : b = 1
  · rw [if_pos hb, if_pos hb, List.append_nil, cut_none h]; simp [hb]
  · rw [if_neg hb, if_neg hb, cut_at h]; simp [hb]
theorem dtext_one : dtext 1 = [49] := by
  unfold dtext
  rw [if_neg (by decide), d10_pos (by decide), show (1 : Nat) / 10 = 0 from rfl, d10_zero]; rfl
/-- Parse of the text of a Rat is the Rat. -/
theorem parse_text {q : Rq} (h : okq q = true) (hd : Ds q.num ∧ Ds q.den) (hl : (rtext q).length ≤ 4900) : fparse (rtext q) = (q, 0) := by
  by_cases hf : q.f = 0
  · have k := okq_ds h hf hd
    obtain ⟨a, ha⟩ : ∃ a, val q.num = a := ⟨_, rfl⟩
    obtain ⟨b, hb⟩ : ∃ b, val q.den = b := ⟨_, rfl⟩
    rw [ha, hb] at k
    have e : rtext q = ntext q.neg a b := by unfold rtext; rw [if_pos hf, ha, hb]
    rw [e] at hl ⊢
    obtain ⟨h1, h2, h3, h4⟩ := ntext_parts q.neg a b
    have hlen : (ntext q.neg a b).length = (if q.neg then 1 else 0) + (dtext a).length + (if b = 1 then 0 else 1 + (dtext b).length) := by
      unfold ntext
      split <;> split <;> simp [*] <;> omega
    have hla : (dtext a).length ≤ 4900 := by omega
    have hbt : (if b = 1 then [49] else dtext b) = dtext b := by
      split
      · rename_i hb1; rw [hb1, dtext_one]
      · rfl
    have hlb : (dtext b).length ≤ 4900 := by
      by_cases hb1 : b = 1
      · rw [hb1, dtext_one]; decide
      · rw [if_neg hb1] at hlen; omega
    unfold fparse
    rw [if_neg (by omega), if_neg h3, if_neg h4, h1, h2, ntext_cut]
    have e2 : (if decide (b ≠ 1) = true then (if b = 1 then [] else dtext b) else [49]) = dtext b := by
      by_cases hb1 : b = 1
      · simp [hb1, dtext_one]
      · simp [hb1]
    dsimp only
    rw [e2]
    unfold fparts
    have hp := k.pos
    have hne : ¬ (decide (b ≠ 1) = true ∧ dtext b = [49]) := by
      rintro ⟨h5, h6⟩
      have h7 := dval_dtext b
      rw [h6] at h7
      simp at h5
      exact h5 (h7.symm.trans rfl)
    rw [perr_dtext hla, perr_dtext hlb, dval_dtext, dval_dtext, if_neg]
    · have eq : (⟨0, q.neg, dig a, dig b⟩ : Rq) = q := by
        have := k.f; have := k.num; have := k.den
        cases q; simp_all
      rw [eq, h]; rfl
    · rintro (h5 | h5 | h5 | h5)
      · exact h5 rfl
      · exact h5 rfl
      · omega
      · exact hne h5
  · have e : rtext q = (faultB q.f).data.toList := if_neg hf
    have hq := okq_fq h hf
    have h4 := okq_f h
    rw [e]
    unfold faultB
    by_cases h5 : q.f = 4
    · rw [if_pos h5]
      have : fparse rangeB.data.toList = (fq 4, 0) := by decide
      rw [this, hq, h5]
    · rw [if_neg h5]
      have h6 : q.f = 11 := by omega
      have : fparse zeroB.data.toList = (fq 11, 0) := by decide
      rw [this, hq, h6]
/-- A text that Parse takes is that of its Rat. -/
theorem text_parse {l : List UInt8} {q : Rq} (h : fparse l = (q, 0)) : okq q = true ∧ Ds q.num ∧ Ds q.den ∧ rtext q = l ∧ l.length ≤ 4900 := by
  unfold fparse at h
  split at h
  · injection h with _ h; exact absurd h (by decide)
  · rename_i hl
    split at h
    · rename_i h1
      injection h with h _
      subst h
      refine ⟨rfl, Ds.nil, Ds.nil, ?_, by omega⟩
      rw [h1]; rfl
    · split at h
      · rename_i h1
        injection h with h _
        subst h
        refine ⟨rfl, Ds.nil, Ds.nil, ?_, by omega⟩
        rw [h1]; rfl
      · obtain ⟨x, hx⟩ : ∃ x, Lib.trimPrefix l [45] = x := ⟨_, rfl⟩
        obtain ⟨n, hn⟩ : ∃ n, Lib.hasPrefix l [45] = n := ⟨_, rfl⟩
        have hb := cut_back x 47
        rw [hx, hn] at h
        obtain ⟨⟨p, r, t⟩, hc⟩ : ∃ c, Lib.cut x [47] = c := ⟨_, rfl⟩
        rw [hc] at h hb
        dsimp only at h hb
        have hs : l = (if n then [45] else []) ++ x := by
          subst hx hn
          unfold Lib.trimPrefix Lib.hasPrefix
          cases l with
          | nil => simp [List.isPrefixOf]
          | cons c l =>
            by_cases e : 45 = c
            · subst e; simp [List.isPrefixOf]
            · simp [List.isPrefixOf, e]
        obtain ⟨bl, hbl⟩ : ∃ bl, (if t = true then r else [49]) = bl := ⟨_, rfl⟩
        rw [hbl] at h
        unfold fparts at h
        split at h
        · injection h with _ h; exact absurd h (by decide)
        · rename_i h0
          simp only [not_or, Decidable.not_not] at h0
          obtain ⟨h01, h02, h03, h04⟩ := h0
          split at h
          · rename_i hok
            injection h with h _
            subst h
            refine ⟨hok, ds_dig _, ds_dig _, ?_, by omega⟩
            unfold rtext ntext
            rw [if_pos rfl]
            show (if n then [45] else []) ++ dtext (val (dig (dval p))) ++ _ = l
            rw [val_dig, val_dig, dtext_dval h01, dtext_dval h02, hs, hb, List.append_assoc]
            congr 2
            cases t
            · subst hbl; rfl
            · have hbl : r = bl := hbl
              subst hbl
              have h05 : r ≠ [49] := fun e => h04 ⟨rfl, e⟩
              have h06 : dval r ≠ 1 := fun e => by
                have := dtext_dval (l := r) h02
                rw [e, dtext_one] at this
                exact h05 this.symm
              show (if dval r = 1 then [] else 47 :: r) = 47 :: r
              rw [if_neg h06]
          · injection h with _ h; exact absurd h (by decide)
/-- What the specification's Parse makes of the parts. -/
def rparts (l : List UInt8) (neg : Bool) (above : List UInt8) (two : Bool) (below : List UInt8) : Rq × Int :=
  if perr above = 0 ∧ (two = true → perr below = 0) then
    (if (ratio neg (dval above) (if two then dval below else 1)).f = 0 ∧ rtext (ratio neg (dval above) (if two then dval below else 1)) = l then (ratio neg (dval above) (if two then dval below else 1), 0) else (fq 0, 5))
  else (fq 0, 5)
def rparse (l : List UInt8) : Rq × Int :=
  if 4900 < l.length then (fq 0, 3)
  else if l = rangeB.data.toList then (fq 4, 0)
  else if l = zeroB.data.toList then (fq 11, 0)
  else rparts l (Lib.hasPrefix l [45]) (Lib.cut (Lib.trimPrefix l [45]) [47]).1 (Lib.cut (Lib.trimPrefix l [45]) [47]).2.2 (Lib.cut (Lib.trimPrefix l [45]) [47]).2.1
theorem ratio_ds (n : Bool) (a b : Nat) : Ds (ratio n a b).num ∧ Ds (ratio n a b).den := by
  unfold ratio
  split
  · exact ⟨Ds.nil, Ds.nil⟩
  · split
    · exact ⟨Ds.nil, Ds.nil⟩
    · exact ⟨ds_dig _, ds_dig _⟩
theorem fparts_bad {n t : Bool} {p r : List UInt8} {m : Rq × Int} (h : fparts n p t r = m) (hm : m.2 ≠ 0) : m = (fq 0, 5) := by
  subst h
  unfold fparts at hm ⊢
  split
  · rfl
  · rename_i h0
    rw [if_neg h0] at hm
    split
    · rename_i h1; rw [if_pos h1] at hm; exact absurd rfl hm
    · rfl
/-- The specification's Parse finds the same. -/
theorem rparse_eq (l : List UInt8) : rparse l = fparse l := by
  by_cases h1 : 4900 < l.length
  · unfold rparse fparse; rw [if_pos h1, if_pos h1]
  · by_cases h2 : l = rangeB.data.toList
    · unfold rparse fparse; rw [if_neg h1, if_neg h1, if_pos h2, if_pos h2]
    · by_cases h3 : l = zeroB.data.toList
      · unfold rparse fparse; rw [if_neg h1, if_neg h1, if_neg h2, if_neg h2, if_pos h3, if_pos h3]
      · have er : rparse l = rparts l (Lib.hasPrefix l [45]) (Lib.cut (Lib.trimPrefix l [45]) [47]).1 (Lib.cut (Lib.trimPrefix l [45]) [47]).2.2 (Lib.cut (Lib.trimPrefix l [45]) [47]).2.1 := by
          unfold rparse; rw [if_neg h1, if_neg h2, if_neg h3]
        have ef : fparse l = fparts (Lib.hasPrefix l [45]) (Lib.cut (Lib.trimPrefix l [45]) [47]).1 (Lib.cut (Lib.trimPrefix l [45]) [47]).2.2 (if (Lib.cut (Lib.trimPrefix l [45]) [47]).2.2 then (Lib.cut (Lib.trimPrefix l [45]) [47]).2.1 else [49]) := by
          unfold fparse; rw [if_neg h1, if_neg h2, if_neg h3]
        have htp : ∀ q, fparse l = (q, 0) → okq q = true ∧ Ds q.num ∧ Ds q.den ∧ rtext q = l ∧ l.length ≤ 4900 := fun q h => text_parse h
        have hpt : ∀ q, okq q = true → Ds q.num ∧ Ds q.den → rtext q = l → fparse l = (q, 0) := fun q ho hd ht => by
          subst ht; exact parse_text ho hd (by omega)
        rw [er]
        generalize Lib.hasPrefix l [45] = n at *
        generalize Lib.cut (Lib.trimPrefix l [45]) [47] = c at *
        obtain ⟨p, r, t⟩ := c
        dsimp only at *
        unfold rparts
        obtain ⟨x, hx⟩ : ∃ x, ratio n (dval p) (if t then dval r else 1) = x := ⟨_, rfl⟩
        have hds := ratio_ds n (dval p) (if t then dval r else 1)
        have hok := ratio_okq n (dval p) (if t then dval r else 1)
        rw [hx] at hds hok ⊢
        by_cases hc : (perr p = 0 ∧ (t = true → perr r = 0)) ∧ x.f = 0 ∧ rtext x = l
        · rw [if_pos hc.1, if_pos hc.2]
          exact (hpt x hok hds hc.2.2).symm
        · have e : (if perr p = 0 ∧ (t = true → perr r = 0) then (if x.f = 0 ∧ rtext x = l then (x, 0) else (fq 0, 5)) else (fq 0, 5) : Rq × Int) = (fq 0, 5) := by
            by_cases h4 : perr p = 0 ∧ (t = true → perr r = 0)
            · rw [if_pos h4, if_neg fun h5 => hc ⟨h4, h5⟩]
            · rw [if_neg h4]
          rw [e]
          by_cases h0 : (fparse l).2 = 0
          · exfalso
            apply hc
            obtain ⟨y, hy⟩ : ∃ y, (fparse l).1 = y := ⟨_, rfl⟩
            have hfy : fparse l = (y, 0) := by rw [← hy, ← h0]
            obtain ⟨o1, o2, o3, o4, -⟩ := htp y hfy
            rw [ef] at hfy
            have e2 : (if t then dval r else 1) = dval (if t = true then r else [49]) := by cases t <;> rfl
            have e4 : t = true → (if t = true then r else [49]) = r := fun ht => if_pos ht
            generalize (if t = true then r else [49]) = bl at hfy e2 e4
            unfold fparts at hfy
            split at hfy
            · injection hfy with _ h; exact absurd h (by decide)
            · rename_i h5
              simp only [not_or, Decidable.not_not] at h5
              split at hfy
              · rename_i h6
                injection hfy with h7 _
                have k := okq_ds h6 rfl ⟨ds_dig _, ds_dig _⟩
                rw [val_dig, val_dig] at k
                have e3 : x = y := by
                  rw [← hx, e2, ← h7]
                  exact ratio_own k
                rw [e3]
                refine ⟨⟨h5.1, fun ht => ?_⟩, ?_, o4⟩
                · have := h5.2.1; rw [e4 ht] at this; exact this
                · rw [← h7]
              · injection hfy with _ h; exact absurd h (by decide)
          · exact (fparts_bad ef.symm h0).symm
end Go.Proofs.YtcbaipnphepbeaaGreatDoor

namespace Go.Proofs.YtcbaipnphepbeaaGreatDoor
open Go.RowKit

set_option maxHeartbeats 1000000 in
/-- Parse. -/
theorem rNum_calls {w : World} {s : ByteArray} (hs : s.size ≤ 1073741824) :
    Calls Tryz.prog 121 #[.string s] w fun e w' => ∃ r, e = .returned (.tuple #[r, .int .i64 (perr s.data.toList : Nat)]) ∧ OV w.heap.size w' r (pdig s.data.toList) ∧ Ext w w' := by
  have hsz : s.data.toList.length = s.size := (Lib.size_eq s).symm
  have HS := Aside.mk hs
  by_cases h49 : 4900 < s.size
  · have HP : Aside (perr s.data.toList = 3) := ⟨by unfold perr; rw [if_pos (by rw [hsz]; exact h49)]⟩
    rw [HP.out, pdig_err (by rw [HP.out]; decide)]
    clear hsz
    go_enter Tryz.func121, Tryz.ntmps121
    go_wp2
    go_ret2
    exact ⟨.slice none 0 0, rfl, OV.nil _ _, Ext.refl w⟩
  · obtain ⟨d, hd⟩ : ∃ d, isDs s.data.toList = d := ⟨_, rfl⟩
    have HD := Aside.mk hd
    cases d
    · have HP : Aside (perr s.data.toList = 5) := ⟨by
        unfold perr
        rw [if_neg (by omega)]
        split
        · rfl
        · rename_i h
          rw [not_or] at h
          unfold isDs at hd
          rw [if_neg]
          intro h2
          rw [h2] at hd
          cases hh : s.data.toList with
          | nil => exact h.1 hh
          | cons x xs => rw [hh] at hd; simp at hd⟩
      rw [HP.out, pdig_err (by rw [HP.out]; decide)]
      clear hsz hd
      go_enter Tryz.func121, Tryz.ntmps121
      go_wp2_with (go_at_call 149; with_reducible refine (rDigits_calls HS.out HD.out).mono ?_; rintro e w' ⟨rfl, rfl⟩)
      go_ret2
      exact ⟨.slice none 0 0, rfl, OV.nil _ _, Ext.refl w⟩
    · obtain ⟨hall, h0⟩ := isDs_all hd
      rw [hsz] at h0
      have hd0 : s.data.toList[0]? = some s[0] := Lib.data_getElem? s 0 h0
      have HALL := Aside.mk hall
      have HL : Aside ((dig (dval s.data.toList)).length ≤ 4900) := ⟨Nat.le_trans (dval_len hall) (by omega)⟩
      by_cases hz : s[0] = 48 ∧ 1 < s.size
      · have HP : Aside (perr s.data.toList = 5) := ⟨by
          unfold perr
          rw [if_neg (by omega), if_pos (.inr ⟨by rw [List.head?_eq_getElem?, hd0, hz.1], by omega⟩)]⟩
        rw [HP.out, pdig_err (by rw [HP.out]; decide)]
        have hb : (((s[0].toNat : Nat) : Int) == 48) = true := by rw [hz.1]; rfl
        have hz2 := hz.2
        clear hsz hz hd0 hd hall
        go_enter Tryz.func121, Tryz.ntmps121
        go_wp2_with (go_at_call 149; with_reducible refine (rDigits_calls HS.out HD.out).mono ?_; rintro e w' ⟨rfl, rfl⟩)
        go_ret2
        exact ⟨.slice none 0 0, rfl, OV.nil _ _, Ext.refl w⟩
      · have HP : Aside (perr s.data.toList = 0) := ⟨by
          unfold perr
          rw [if_neg (by omega), if_neg, if_pos hall]
          rintro (h | ⟨h1, h2⟩)
          · rw [h] at hsz; simp at hsz; omega
          · rw [List.head?_eq_getElem?, hd0] at h1
            exact hz ⟨by simpa using h1, by omega⟩⟩
        have hcase : ((((s[0].toNat : Nat) : Int) == 48) = true ∧ s.size ≤ 1) ∨ (((s[0].toNat : Nat) : Int) == 48) = false := by
          cases hb : (((s[0].toNat : Nat) : Int) == 48)
          · exact .inr rfl
          · refine .inl ⟨rfl, ?_⟩
            rcases Nat.lt_or_ge 1 s.size with h1 | h1
            · exfalso; apply hz
              refine ⟨?_, h1⟩
              apply UInt8.toNat_inj.1
              have : (48 : UInt8).toNat = 48 := rfl
              have := eq_of_beq hb
              omega
            · exact h1
        rw [HP.out, pdig_ok HP.out]
        clear hsz hz hd0 hd hall
        rcases hcase with ⟨hb, h1⟩ | hb
        · go_enter Tryz.func121, Tryz.ntmps121
          go_wp2_with (first | (go_at_call 149; with_reducible refine (rDigits_calls HS.out HD.out).mono ?_; rintro e w' ⟨rfl, rfl⟩) | (go_at_call 150; with_reducible refine (rDec_calls HS.out HALL.out HL.out).mono ?_; rintro e w' ⟨r, rfl, hr, he⟩; have HR := Aside.mk hr; have HE := Aside.mk he; clear hr he))
          go_ret2
          exact ⟨_, rfl, HR.out, HE.out⟩
        · go_enter Tryz.func121, Tryz.ntmps121
          go_wp2_with (first | (go_at_call 149; with_reducible refine (rDigits_calls HS.out HD.out).mono ?_; rintro e w' ⟨rfl, rfl⟩) | (go_at_call 150; with_reducible refine (rDec_calls HS.out HALL.out HL.out).mono ?_; rintro e w' ⟨r, rfl, hr, he⟩; have HR := Aside.mk hr; have HE := Aside.mk he; clear hr he))
          go_ret2
          exact ⟨_, rfl, HR.out, HE.out⟩

/-- FaultText. -/
theorem faultText_calls {w : World} {f : Int} : Calls Tryz.prog 71 #[.int .i64 f] w fun e w' => e = .returned (.string (faultB f)) ∧ w = w' := by
  unfold faultB
  by_cases h : f = 4
  · have h1 : (f == 4) = true := by simpa using h
    rw [if_pos h]
    clear h
    go_enter Tryz.func71, Tryz.ntmps71
    go_wp2
    go_ret
    exact ⟨rfl, rfl⟩
  · have h1 : (f == 4) = false := beq_eq_false_iff_ne.2 h
    rw [if_neg h]
    clear h
    go_enter Tryz.func71, Tryz.ntmps71
    go_wp2
    go_ret
    exact ⟨rfl, rfl⟩

theorem ext_take (s : ByteArray) (k : Nat) : s.extract 0 k = ⟨(s.data.toList.take k).toArray⟩ := by
  apply ByteArray.ext
  rw [ByteArray.data_extract]
  apply Array.toList_inj.1
  simp
theorem ext_drop (s : ByteArray) (k : Nat) : s.extract k s.size = ⟨(s.data.toList.drop k).toArray⟩ := by
  apply ByteArray.ext
  rw [ByteArray.data_extract]
  apply Array.toList_inj.1
  have h := Lib.size_eq s
  rw [Array.toList_extract, List.extract_eq_drop_take']
  rw [List.take_of_length_le (by omega)]
theorem drop_snoc {l : List UInt8} {k : Nat} {c : UInt8} (h : l[k]? = some c) : l = l.take k ++ c :: l.drop (k + 1) := by
  have hk : k < l.length := by
    rcases Nat.lt_or_ge k l.length with h' | h'
    · exact h'
    · rw [List.getElem?_eq_none h'] at h; cases h
  rw [List.getElem?_eq_getElem hk] at h
  injection h with h
  conv => lhs; rw [← List.take_append_drop k l]
  rw [List.drop_eq_getElem_cons hk, h]
set_option maxHeartbeats 1000000 in
/-- cut. -/
theorem rcut_calls {w : World} {s : ByteArray} {b : UInt8} (hs : s.size ≤ 1073741824) :
    Calls Tryz.prog 120 #[.string s, .int .u8 (b.toNat : Int)] w fun e w' => e = .returned (.tuple #[.string ⟨(Lib.cut s.data.toList [b]).1.toArray⟩, .string ⟨(Lib.cut s.data.toList [b]).2.1.toArray⟩, .bool (Lib.cut s.data.toList [b]).2.2]) ∧ ∃ n, w' = w.drewN n := by
  have mixed : Tryz.prog.follows Departure.mixedOrders = true := by kernel_rfl
  have hsz : s.data.toList.length = s.size := (Lib.size_eq s).symm
  have HSZ := Aside.mk hsz
  obtain ⟨m, hm⟩ : ∃ m, b.toNat = m := ⟨_, rfl⟩
  have HM := Aside.mk hm
  rw [hm]
  clear hsz hm
  go_enter Tryz.func120, Tryz.ntmps120
  go_wp2
  go_loop [7] (fun i => ∃ (k : Nat), k ≤ s.size ∧ i = .int .i64 (k : Int) ∧ Aside (∀ x ∈ s.data.toList.take k, x ≠ b)) (fun i => s.size - (intOf i).toNat)
  case atStart => exact ⟨0, Nat.zero_le _, rfl, ⟨by simp⟩⟩
  case round =>
    obtain ⟨k, hk, rfl, HD⟩ := hrel
    by_cases hlt : k < s.size
    · have hdk : s.data.toList[k]? = some s[k] := Lib.data_getElem? s k hlt
      have HDK := Aside.mk hdk
      clear hdk
      by_cases he : s[k] = b
      · have HC : Aside (Lib.cut s.data.toList [b] = (s.data.toList.take k, s.data.toList.drop (k + 1), true)) := ⟨by
          conv => lhs; rw [drop_snoc HDK.out, he]
          exact cut_at HD.out⟩
        have hb : (((s[k].toNat : Nat) : Int) == (m : Int)) = true := by rw [he, HM.out]; simp
        clear he
        go_wp2_with fail
        go_quiet (fail)
        go_wp2
        refine bodyPost_ret (v := .tuple #[.string (s.extract 0 k), .string (s.extract (k + 1) s.size), .bool true]) (by simp [results, Tryz.results120, go_sem]) rfl ⟨?_, nq, rfl⟩
        rw [HC.out, ext_take, ext_drop]
      · have hb : (((s[k].toNat : Nat) : Int) == (m : Int)) = false := by
          rw [beq_eq_false_iff_ne]
          intro h
          apply he
          apply UInt8.toNat_inj.1
          rw [HM.out]; omega
        have HD2 : Aside (∀ x ∈ s.data.toList.take (k + 1), x ≠ b) := ⟨by
          rw [take_snoc HDK.out]
          intro x hx
          rcases List.mem_append.1 hx with hx | hx
          · exact HD.out x hx
          · rw [List.mem_singleton.1 hx]; exact he⟩
        clear he
        go_wp2
        go_round
        case rel => exact ⟨k + 1, by omega, by go_num, HD2⟩
        case measure => simp [intOf]; omega
    · have hks : k = s.size := by omega
      have HC : Aside (Lib.cut s.data.toList [b] = (s.data.toList, [], false)) := ⟨by
        have h := HD.out
        rw [hks, ← HSZ.out, List.take_length] at h
        exact cut_none h⟩
      subst hks
      go_wp2
      refine bodyPost_ret (v := .tuple #[.string s, .string ⟨#[]⟩, .bool false]) (by simp [results, Tryz.results120, go_sem]) rfl ⟨?_, 0, rfl⟩
      rw [HC.out]
end Go.Proofs.YtcbaipnphepbeaaGreatDoor

namespace Go.Proofs.YtcbaipnphepbeaaGreatDoor
open Go.RowKit

set_option maxRecDepth 10000 in
set_option maxHeartbeats 4000000 in
theorem rtext_num {w : World} {v : Value} {neg : Bool} {a b : Nat} (h : RR w v ⟨0, neg, dig a, dig b⟩) (ha : (dig a).length ≤ 128) (hb : (dig b).length ≤ 128) (hb0 : 0 < b) :
    Calls Tryz.prog 70 #[v] w fun e w' => e = .returned (.string ⟨(ntext neg a b).toArray⟩) ∧ Ext w w' := by
  obtain ⟨x, y, rfl, hx, hy⟩ := h
  dsimp only at *
  have HXA := Aside.mk (NV.of hx (by omega))
  have HYA := Aside.mk (NV.of hy (by omega))
  have hl1 : (dtext a).length ≤ 1280 := dtext_le ha
  have hl2 : (dtext b).length ≤ 1280 := dtext_le hb
  obtain ⟨A, c, rfl, _⟩ := hx
  obtain ⟨B, d, rfl, hcd, _, hr⟩ := hy
  obtain ⟨k, hk⟩ : ∃ k, (dig b).length = k + 1 := ⟨(dig b).length - 1, by
    have : (dig b).length ≠ 0 := fun h => by have := dig_nil_iff.1 (List.eq_nil_of_length_eq_zero h); omega
    omega⟩
  obtain ⟨t, ht⟩ : ∃ t, (dig b).getD 0 0 = t := ⟨_, rfl⟩
  obtain ⟨bd, rfl, hcell⟩ := Rd.at32 hr 0 (by omega)
  rw [ht, show bd.add 0 = bd from by simp [Addr.add]] at hcell
  have HDC : Aside (∀ w', Ext w w' → w'.cell? bd = some (.int .u32 (t : Int))) := ⟨fun w' e => e.cell hcell⟩
  have htb : (k = 0 ∧ t = 1 ∧ b = 1) ∨ (k = 0 ∧ ((t : Int) == 1) = false ∧ b ≠ 1) ∨ ((((k + 1 : Nat) : Int) == 1) = false ∧ b ≠ 1) := by
    have hb1 : k = 0 → b = t := by
      intro hk0
      subst hk0
      obtain ⟨z, hz⟩ := List.length_eq_one_iff.1 hk
      have := val_dig b
      rw [hz] at this ht
      simp [val] at this ht
      omega
    by_cases hk0 : k = 0
    · have := hb1 hk0
      by_cases ht1 : t = 1
      · exact .inl ⟨hk0, ht1, by omega⟩
      · exact .inr (.inl ⟨hk0, beq_eq_false_iff_ne.2 (by omega), by omega⟩)
    · refine .inr (.inr ⟨beq_eq_false_iff_ne.2 (by omega), ?_⟩)
      intro h1
      rw [h1, dig_pos (by omega), show (1 : Nat) / 4294967296 = 0 from rfl, dig_zero] at hk
      simp at hk; omega
  have hk0 := KeepB.init w (.int .i64 0) (.bool neg) (.slice A (dig a).length c) (.slice (some bd) (dig b).length d) 83
  rw [hk] at hk0 HYA hcd ⊢
  generalize (dig a).length = la at *
  clear hr hcell hk ht
  rcases htb with ⟨rfl, rfl, rfl⟩ | ⟨rfl, htz, hb1⟩ | ⟨hkz, hb1⟩
  · cases neg
    · have HS : Aside ((⟨(dtext a).toArray⟩ : ByteArray) = ⟨(ntext false a 1).toArray⟩) := ⟨by simp [ntext]⟩
      go_enter Tryz.func70, Tryz.ntmps70
      go_wp2_with (first | (go_at_call 88; refine (rText_calls (HXA.out.ext hk0.1.out)).mono ?_; rintro e w2 ⟨rfl, he⟩; have hk3 := KeepB.ext he hk0; have hc3 := HDC.out _ hk3.1.out; clear hk0 he) | (go_at_call 88; refine (rText_calls (HYA.out.ext hk3.1.out)).mono ?_; rintro e w3 ⟨rfl, he⟩; have hk4 := KeepB.ext he hk3; clear hk3 he))
      go_ret
      exact ⟨by rw [← HS.out]; rfl, hk3.1.out⟩
    · have HS : Aside ((⟨#[45]⟩ ++ ⟨(dtext a).toArray⟩ : ByteArray) = ⟨(ntext true a 1).toArray⟩) := ⟨by rw [show (⟨#[45]⟩ : ByteArray) = ⟨[45].toArray⟩ from rfl, bcat]; simp [ntext]⟩
      go_enter Tryz.func70, Tryz.ntmps70
      go_wp2_with (first | (go_at_call 88; refine (rText_calls (HXA.out.ext hk0.1.out)).mono ?_; rintro e w2 ⟨rfl, he⟩; have hk3 := KeepB.ext he hk0; have hc3 := HDC.out _ hk3.1.out; clear hk0 he) | (go_at_call 88; refine (rText_calls (HYA.out.ext hk3.1.out)).mono ?_; rintro e w3 ⟨rfl, he⟩; have hk4 := KeepB.ext he hk3; clear hk3 he))
      go_ret
      exact ⟨by rw [← HS.out]; rfl, hk3.1.out⟩
  · have hbb : ntext false a b = dtext a ++ ([47] ++ dtext b) := by simp [ntext, hb1]
    have hbt : ntext true a b = 45 :: (dtext a ++ ([47] ++ dtext b)) := by simp [ntext, hb1]
    cases neg
    · have HS : Aside ((⟨(dtext a).toArray⟩ ++ ⟨#[47]⟩ ++ ⟨(dtext b).toArray⟩ : ByteArray) = ⟨(ntext false a b).toArray⟩) := ⟨by rw [show (⟨#[47]⟩ : ByteArray) = ⟨[47].toArray⟩ from rfl, bcat, bcat, hbb, List.append_assoc]⟩; clear hbb hbt hb1
      go_enter Tryz.func70, Tryz.ntmps70
      go_wp2_with (first | (go_at_call 88; refine (rText_calls (HXA.out.ext hk0.1.out)).mono ?_; rintro e w2 ⟨rfl, he⟩; have hk3 := KeepB.ext he hk0; have hc3 := HDC.out _ hk3.1.out; clear hk0 he) | (go_at_call 88; refine (rText_calls (HYA.out.ext hk3.1.out)).mono ?_; rintro e w3 ⟨rfl, he⟩; have hk4 := KeepB.ext he hk3; clear hk3 he))
      go_ret
      exact ⟨by rw [← HS.out]; rfl, hk4.1.out⟩
    · have HS : Aside ((⟨#[45]⟩ ++ ⟨(dtext a).toArray⟩ ++ ⟨#[47]⟩ ++ ⟨(dtext b).toArray⟩ : ByteArray) = ⟨(ntext true a b).toArray⟩) := ⟨by rw [show (⟨#[47]⟩ : ByteArray) = ⟨[47].toArray⟩ from rfl, show (⟨#[45]⟩ : ByteArray) = ⟨[45].toArray⟩ from rfl, bcat, bcat, bcat, hbt]; simp⟩; clear hbb hbt hb1
      go_enter Tryz.func70, Tryz.ntmps70
      go_wp2_with (first | (go_at_call 88; refine (rText_calls (HXA.out.ext hk0.1.out)).mono ?_; rintro e w2 ⟨rfl, he⟩; have hk3 := KeepB.ext he hk0; have hc3 := HDC.out _ hk3.1.out; clear hk0 he) | (go_at_call 88; refine (rText_calls (HYA.out.ext hk3.1.out)).mono ?_; rintro e w3 ⟨rfl, he⟩; have hk4 := KeepB.ext he hk3; clear hk3 he))
      go_ret
      exact ⟨by rw [← HS.out]; rfl, hk4.1.out⟩
  · have hbb : ntext false a b = dtext a ++ ([47] ++ dtext b) := by simp [ntext, hb1]
    have hbt : ntext true a b = 45 :: (dtext a ++ ([47] ++ dtext b)) := by simp [ntext, hb1]
    cases neg
    · have HS : Aside ((⟨(dtext a).toArray⟩ ++ ⟨#[47]⟩ ++ ⟨(dtext b).toArray⟩ : ByteArray) = ⟨(ntext false a b).toArray⟩) := ⟨by rw [show (⟨#[47]⟩ : ByteArray) = ⟨[47].toArray⟩ from rfl, bcat, bcat, hbb, List.append_assoc]⟩; clear hbb hbt hb1
      go_enter Tryz.func70, Tryz.ntmps70
      go_wp2_with (first | (go_at_call 88; refine (rText_calls (HXA.out.ext hk0.1.out)).mono ?_; rintro e w2 ⟨rfl, he⟩; have hk3 := KeepB.ext he hk0; have hc3 := HDC.out _ hk3.1.out; clear hk0 he) | (go_at_call 88; refine (rText_calls (HYA.out.ext hk3.1.out)).mono ?_; rintro e w3 ⟨rfl, he⟩; have hk4 := KeepB.ext he hk3; clear hk3 he))
      go_ret
      exact ⟨by rw [← HS.out]; rfl, hk4.1.out⟩
    · have HS : Aside ((⟨#[45]⟩ ++ ⟨(dtext a).toArray⟩ ++ ⟨#[47]⟩ ++ ⟨(dtext b).toArray⟩ : ByteArray) = ⟨(ntext true a b).toArray⟩) := ⟨by rw [show (⟨#[47]⟩ : ByteArray) = ⟨[47].toArray⟩ from rfl, show (⟨#[45]⟩ : ByteArray) = ⟨[45].toArray⟩ from rfl, bcat, bcat, bcat, hbt]; simp⟩; clear hbb hbt hb1
      go_enter Tryz.func70, Tryz.ntmps70
      go_wp2_with (first | (go_at_call 88; refine (rText_calls (HXA.out.ext hk0.1.out)).mono ?_; rintro e w2 ⟨rfl, he⟩; have hk3 := KeepB.ext he hk0; have hc3 := HDC.out _ hk3.1.out; clear hk0 he) | (go_at_call 88; refine (rText_calls (HYA.out.ext hk3.1.out)).mono ?_; rintro e w3 ⟨rfl, he⟩; have hk4 := KeepB.ext he hk3; clear hk3 he))
      go_ret
      exact ⟨by rw [← HS.out]; rfl, hk4.1.out⟩

/-- Text of a valid Rat. -/
theorem rtext_calls {w : World} {v : Value} {q : Rq} {s : ByteArray} (h : RR w v q) (hq : okq q = true) (hs : (⟨(rtext q).toArray⟩ : ByteArray) = s) :
    Calls Tryz.prog 70 #[v] w fun e w' => e = .returned (.string s) ∧ Ext w w' := by
  subst hs
  by_cases hf : q.f = 0
  · have k := okq_ds hq hf h.ds
    have e : rtext q = ntext q.neg (val q.num) (val q.den) := if_pos hf
    have eq : (⟨0, q.neg, dig (val q.num), dig (val q.den)⟩ : Rq) = q := by
      rw [← k.num, ← k.den]
      obtain ⟨f, n, x, y⟩ := q
      obtain rfl : f = 0 := hf
      rfl
    rw [e]
    exact rtext_num (by rw [eq]; exact h) k.la k.lb k.pos
  · have e : (⟨(rtext q).toArray⟩ : ByteArray) = faultB q.f := by
      rw [show rtext q = (faultB q.f).data.toList from if_neg hf]
    rw [e]
    obtain ⟨A, c, B, d, rfl⟩ := h.form
    have hk0 := KeepB.init w (.int .i64 q.f) (.bool q.neg) (.slice A q.num.length c) (.slice B q.den.length d) 83
    have hqf1 : (q.f == 0) = false := beq_eq_false_iff_ne.2 hf
    have hqf2 : (q.f != 0) = true := by simp [bne, hqf1]
    clear hf e h hq
    go_enter Tryz.func70, Tryz.ntmps70
    go_wp2_with (go_at_call 71; refine faultText_calls.mono ?_; rintro e w' ⟨rfl, rfl⟩)
    go_ret
    exact ⟨rfl, hk0.1.out⟩

/-! Parse -/
theorem rcut_to {w : World} {s s2 s3 : ByteArray} {t : Bool} {b : UInt8} {k : Int} (hb : (b.toNat : Int) = k) (hs : s.size ≤ 1073741824) (h2 : (⟨(Lib.cut s.data.toList [b]).1.toArray⟩ : ByteArray) = s2) (h3 : (⟨(Lib.cut s.data.toList [b]).2.1.toArray⟩ : ByteArray) = s3) (ht : (Lib.cut s.data.toList [b]).2.2 = t) :
    Calls Tryz.prog 120 #[.string s, .int .u8 k] w fun e w' => e = .returned (.tuple #[.string s2, .string s3, .bool t]) ∧ Ext w w' := by
  subst hb h2 h3 ht
  refine (rcut_calls hs).mono ?_
  rintro e w' ⟨rfl, n, rfl⟩
  exact ⟨rfl, Ext.of_drewN ⟨n, rfl⟩⟩
theorem rnum_to {w : World} {s : ByteArray} {e0 : Nat} {xs : List Nat} (hs : s.size ≤ 1073741824) (he : perr s.data.toList = e0) (hx : pdig s.data.toList = xs) :
    Calls Tryz.prog 121 #[.string s] w fun e w' => ∃ r, e = .returned (.tuple #[r, .int .i64 (e0 : Int)]) ∧ OV w.heap.size w' r xs ∧ Ext w w' := by
  subst he hx
  exact rNum_calls hs
theorem string_beq {s t : ByteArray} {b : Bool} (h : decide (s.data.toList = t.data.toList) = b) : (s.toList == t.toList) = b ∧ (s.toList != t.toList) = !b := by
  have e : (s.toList == t.toList) = b := by rw [toList_beq, h]
  exact ⟨e, by rw [bne, e]⟩

set_option maxRecDepth 10000 in
set_option maxHeartbeats 4000000 in
theorem rparse_early {w : World} {s : ByteArray} (hs : s.size ≤ 1073741824) {m : Rq × Int} (hm : rparse s.data.toList = m)
    (hc : 4900 < s.size ∨ s.data.toList = rangeB.data.toList ∨ s.data.toList = zeroB.data.toList) :
    Calls Tryz.prog 81 #[.string s] w fun e w' => ∃ r, e = .returned (.tuple #[r, .int .i64 m.2]) ∧ RO w.heap.size w' r m.1 ∧ Ext w w' := by
  have hsz : s.data.toList.length = s.size := (Lib.size_eq s).symm
  have hk0 := Keep4.init (Ext.refl w) (.int .i64 0) (.bool false) (.slice none 0 0) (.slice none 0 0) 83
  by_cases h49 : 4900 < s.size
  · have HM : Aside (m = (fq 0, 3)) := ⟨by rw [← hm]; unfold rparse; rw [if_pos (by omega)]⟩
    rw [HM.out]
    have HK := Aside.mk hk0
    clear hsz hm hc hk0
    go_enter Tryz.func81, Tryz.ntmps81
    go_wp2
    refine bodyPost_ret (v := .tuple #[.agg #[.int .i64 0, .bool false, .slice none 0 0, .slice none 0 0], .int .i64 3]) (by simp [results, Tryz.results81, go_sem]) rfl ⟨_, rfl, RO.fq _ _ _, HK.out.1.out⟩
  · by_cases hr : s.data.toList = rangeB.data.toList
    · have HM : Aside (m = (fq 4, 0)) := ⟨by rw [← hm]; unfold rparse; rw [if_neg (by omega), if_pos hr]⟩
      have heq : (s.toList == [33, 114, 97, 110, 103, 101]) = true := by rw [Lib.toList_data, hr]; rfl
      rw [HM.out]
      clear hsz hm hc hr
      go_enter Tryz.func81, Tryz.ntmps81
      go_wp2_with (go_at_call 119; refine rfault_calls.mono ?_; rintro e w3 ⟨rfl, he⟩; have hk2 := Keep4.ext he hk0; clear hk0 he)
      have HK := Aside.mk hk2
      refine bodyPost_ret (v := .tuple #[.agg #[.int .i64 4, .bool false, .slice none 0 0, .slice none 0 0], .int .i64 0]) (by simp [results, Tryz.results81, go_sem, hk2]) rfl ⟨_, rfl, RO.fq _ _ _, ext_set4 HK.out.1.out (Nat.le_refl _) _ _ _ _⟩
    · have hz : s.data.toList = zeroB.data.toList := by rcases hc with h | h | h <;> first | exact absurd h h49 | exact absurd h hr | exact h
      have HM : Aside (m = (fq 11, 0)) := ⟨by rw [← hm]; unfold rparse; rw [if_neg (by omega), if_neg hr, if_pos hz]⟩
      have heq : (s.toList == [33, 114, 97, 110, 103, 101]) = false := by rw [Lib.toList_data]; exact beq_eq_false_iff_ne.2 hr
      have heq2 : (s.toList == [33, 122, 101, 114, 111]) = true := by rw [Lib.toList_data, hz]; rfl
      rw [HM.out]
      clear hsz hm hc hr hz
      go_enter Tryz.func81, Tryz.ntmps81
      go_wp2_with (go_at_call 119; refine rfault_calls.mono ?_; rintro e w3 ⟨rfl, he⟩; have hk2 := Keep4.ext he hk0; clear hk0 he)
      have HK := Aside.mk hk2
      refine bodyPost_ret (v := .tuple #[.agg #[.int .i64 11, .bool false, .slice none 0 0, .slice none 0 0], .int .i64 0]) (by simp [results, Tryz.results81, go_sem, hk2]) rfl ⟨_, rfl, RO.fq _ _ _, ext_set4 HK.out.1.out (Nat.le_refl _) _ _ _ _⟩

/-- How the text begins. -/
def Begins (s s1 : ByteArray) (nb : Bool) : Prop :=
  (∃ h : 0 < s.size, (((s[0]'h).toNat : Int) == 45) = true ∧ s.extract 1 s.size = s1 ∧ nb = true) ∨ (s = ⟨#[]⟩ ∧ s1 = s ∧ nb = false) ∨ (∃ h : 0 < s.size, (((s[0]'h).toNat : Int) == 45) = false ∧ s1 = s ∧ nb = false)
theorem begins (s : ByteArray) : ∃ s1 nb, Begins s s1 nb ∧ Lib.hasPrefix s.data.toList [45] = nb ∧ Lib.trimPrefix s.data.toList [45] = s1.data.toList := by
  have hsz : s.data.toList.length = s.size := (Lib.size_eq s).symm
  rcases Nat.eq_zero_or_pos s.size with h0 | h0
  · have hs0 : s = ⟨#[]⟩ := by
      rw [← Lib.mk_data s, List.eq_nil_of_length_eq_zero (hsz.trans h0)]
    exact ⟨s, false, .inr (.inl ⟨hs0, rfl, rfl⟩), by subst hs0; rfl, by subst hs0; rfl⟩
  · have hd0 : s.data.toList[0]? = some s[0] := Lib.data_getElem? s 0 h0
    cases hl : s.data.toList with
    | nil => rw [hl] at hd0; cases hd0
    | cons c l =>
      rw [hl] at hd0
      have hc : c = s[0] := by simpa using hd0
      by_cases h45 : c = 45
      · refine ⟨s.extract 1 s.size, true, .inl ⟨h0, by rw [← hc, h45]; rfl, rfl, rfl⟩, ?_, ?_⟩
        · subst h45; rfl
        · rw [ext_drop, mk_toList, hl]; subst h45; rfl
      · have hn : Lib.hasPrefix (c :: l) [45] = false := by
          unfold Lib.hasPrefix
          have : ¬ 45 = c := fun e => h45 e.symm
          simp [List.isPrefixOf, this]
        refine ⟨s, false, .inr (.inr ⟨h0, ?_, rfl, rfl⟩), hn, ?_⟩
        · rw [beq_eq_false_iff_ne, ← hc]
          intro h
          apply h45
          apply UInt8.toNat_inj.1
          have : (45 : UInt8).toNat = 45 := rfl
          omega
        · unfold Lib.trimPrefix; rw [hn, hl]; rfl
theorem Begins.more {s s1 s2 : ByteArray} {nb : Bool} (h : Begins s s1 nb) (HS2 : Aside ((⟨(Lib.cut s1.data.toList [47]).1.toArray⟩ : ByteArray) = s2)) (HE1 : Aside (perr s2.data.toList = 0)) :
    (∃ h : 0 < s.size, (((s[0]'h).toNat : Int) == 45) = true ∧ s.extract 1 s.size = s1 ∧ nb = true) ∨ (∃ h : 0 < s.size, (((s[0]'h).toNat : Int) == 45) = false ∧ s1 = s ∧ nb = false) := by
  rcases h with h | ⟨h1, h2, h3⟩ | h
  · exact .inl h
  · exfalso
    have h4 := HE1.out
    rw [← HS2.out, h2, h1] at h4
    exact absurd h4 (by decide)
  · exact .inr h
set_option maxRecDepth 10000 in
set_option maxHeartbeats 4000000 in
theorem rparse_err1 {w : World} {s s1 s2 s3 : ByteArray} {nb tw : Bool} {e1 e2 : Nat} (hbg : Begins s s1 nb) (h49 : s.size ≤ 4900) (heq : (s.toList == [33, 114, 97, 110, 103, 101]) = false) (heq2 : (s.toList == [33, 122, 101, 114, 111]) = false)
    (HL1 : Aside (s1.size ≤ 1073741824)) (HL2 : Aside (s2.size ≤ 1073741824)) (HL3 : Aside (s3.size ≤ 1073741824))
    (HS2 : Aside ((⟨(Lib.cut s1.data.toList [47]).1.toArray⟩ : ByteArray) = s2)) (HS3 : Aside ((⟨(Lib.cut s1.data.toList [47]).2.1.toArray⟩ : ByteArray) = s3)) (HTW : Aside ((Lib.cut s1.data.toList [47]).2.2 = tw))
    (HE1 : Aside (perr s2.data.toList = e1)) (HE2 : Aside (perr s3.data.toList = e2)) (hE : e1 ≠ 0 ∨ (tw = true ∧ e2 ≠ 0)) :
    Calls Tryz.prog 81 #[.string s] w fun e w' => ∃ r, e = .returned (.tuple #[r, .int .i64 5]) ∧ RO w.heap.size w' r (fq 0) ∧ Ext w w' := by
  have hk0 := Keep4.init (Ext.refl w) (.int .i64 0) (.bool false) (.slice none 0 0) (.slice none 0 0) 83
  obtain ⟨xs1, hx1⟩ : ∃ x, pdig s2.data.toList = x := ⟨_, rfl⟩
  obtain ⟨xs2, hx2⟩ : ∃ x, pdig s3.data.toList = x := ⟨_, rfl⟩
  have HP1 := Aside.mk hx1
  have HP2 := Aside.mk hx2
  clear hx1 hx2
  by_cases h1 : e1 = 0
  · subst h1
    obtain ⟨rfl, h2⟩ : tw = true ∧ e2 ≠ 0 := hE.resolve_left (fun h => h rfl)
    have h20 : ((e2 : Int) == 0) = false := beq_eq_false_iff_ne.2 (by omega)
    have h21 : ((e2 : Int) != 0) = true := by simp [bne, h20]
    clear h2 hE
    unfold Begins at hbg
    rcases hbg with ⟨h0, hb, hx, rfl⟩ | ⟨rfl, rfl, rfl⟩ | ⟨h0, hb, rfl, rfl⟩
    all_goals go_enter Tryz.func81, Tryz.ntmps81
    all_goals go_wp2_with (first | (go_at_call 120; refine (rcut_to (b := 47) rfl HL1.out HS2.out HS3.out HTW.out).mono ?_; rintro e w3 ⟨rfl, he⟩; have hk2 := Keep4.ext he hk0; clear hk0 he) | (go_at_call 121; with_reducible refine (rnum_to HL2.out HE1.out HP1.out).mono ?_; rintro e w4 ⟨r1, rfl, hr, he⟩; have hk3 := Keep4.ext he hk2; have HR1 := Aside.mk hr; obtain ⟨A1, c1, rfl, _⟩ := hr.form; clear hk2 hr he) | (go_at_call 122; refine rone_calls.mono ?_; rintro e w5 ⟨r2, rfl, hr, he⟩; have hk4 := Keep4.ext he hk3; have HW4 := Aside.mk he; have HR2 := Aside.mk hr; obtain ⟨A2, c2, rfl, _⟩ := hr.form; clear hk3 hr he) | (go_at_call 121; with_reducible refine (rnum_to HL3.out HE2.out HP2.out).mono ?_; rintro e w6 ⟨r3, rfl, hr, he⟩; have hk5 := Keep4.ext he hk4; have HW5 := Aside.mk he; have HR3 := Aside.mk hr; obtain ⟨A3, c3, rfl, _⟩ := hr.form; clear hk4 hr he) | (go_at_call 100; with_reducible refine (rratio_calls (HR1.out.rv.ext HW4.out) HR2.out.rv LN1.out LN2.out HQ.out).mono ?_; rintro e w7 ⟨r, rfl, hr, he⟩; have HZ := Aside.mk (World.block_lt_of_cell? _ _ hk4.2.1.1); have HR7 := Aside.mk hr; obtain ⟨A7, c7, B7, d7, rfl⟩ := hr.form; have hk7 := Keep4.ext ((Ext.refl w7).alloc (.cells #[.int .i64 q.f, .bool q.neg, .slice A7 q.num.length c7, .slice B7 q.den.length d7] 83)) (Keep4.ext he hk4); have hb7 := KeepB.init w7 (.int .i64 q.f) (.bool q.neg) (.slice A7 q.num.length c7) (.slice B7 q.den.length d7) 83; clear hk4 hr he) | (go_at_call 100; with_reducible refine (rratio_calls ((HR1.out.rv.ext HW4.out).ext HW5.out) HR3.out.rv LN1.out LN2.out HQ.out).mono ?_; rintro e w7 ⟨r, rfl, hr, he⟩; have HZ := Aside.mk (World.block_lt_of_cell? _ _ hk5.2.1.1); have HR7 := Aside.mk hr; obtain ⟨A7, c7, B7, d7, rfl⟩ := hr.form; have hk7 := Keep4.ext ((Ext.refl w7).alloc (.cells #[.int .i64 q.f, .bool q.neg, .slice A7 q.num.length c7, .slice B7 q.den.length d7] 83)) (Keep4.ext he hk5); have hb7 := KeepB.init w7 (.int .i64 q.f) (.bool q.neg) (.slice A7 q.num.length c7) (.slice B7 q.den.length d7) 83; clear hk5 hr he) | (go_at_call 70; with_reducible refine (rtext_calls (HR7.out.rr.ext ((Ext.refl w7).alloc _)) HOK.out HTX.out).mono ?_; rintro e w8 ⟨rfl, he⟩; have hk8 := Keep4.ext he hk7; have hb8 := KeepB.ext he hb7; clear hk7 hb7 he))
    all_goals
      have HK := Aside.mk hk5
      refine bodyPost_ret (v := .tuple #[.agg #[.int .i64 0, .bool false, .slice none 0 0, .slice none 0 0], .int .i64 5]) (by simp [results, Tryz.results81, go_sem, hk5]) rfl ⟨_, rfl, RO.fq _ _ _, ext_set4 HK.out.1.out (Nat.le_refl _) _ _ _ _⟩
  · have h10 : ((e1 : Int) == 0) = false := beq_eq_false_iff_ne.2 (by omega)
    have h11 : ((e1 : Int) != 0) = true := by simp [bne, h10]
    clear h1 hE
    cases tw
    · unfold Begins at hbg
      rcases hbg with ⟨h0, hb, hx, rfl⟩ | ⟨rfl, rfl, rfl⟩ | ⟨h0, hb, rfl, rfl⟩
      all_goals go_enter Tryz.func81, Tryz.ntmps81
      all_goals go_wp2_with (first | (go_at_call 120; refine (rcut_to (b := 47) rfl HL1.out HS2.out HS3.out HTW.out).mono ?_; rintro e w3 ⟨rfl, he⟩; have hk2 := Keep4.ext he hk0; clear hk0 he) | (go_at_call 121; with_reducible refine (rnum_to HL2.out HE1.out HP1.out).mono ?_; rintro e w4 ⟨r1, rfl, hr, he⟩; have hk3 := Keep4.ext he hk2; have HR1 := Aside.mk hr; obtain ⟨A1, c1, rfl, _⟩ := hr.form; clear hk2 hr he) | (go_at_call 122; refine rone_calls.mono ?_; rintro e w5 ⟨r2, rfl, hr, he⟩; have hk4 := Keep4.ext he hk3; have HW4 := Aside.mk he; have HR2 := Aside.mk hr; obtain ⟨A2, c2, rfl, _⟩ := hr.form; clear hk3 hr he) | (go_at_call 121; with_reducible refine (rnum_to HL3.out HE2.out HP2.out).mono ?_; rintro e w6 ⟨r3, rfl, hr, he⟩; have hk5 := Keep4.ext he hk4; have HW5 := Aside.mk he; have HR3 := Aside.mk hr; obtain ⟨A3, c3, rfl, _⟩ := hr.form; clear hk4 hr he) | (go_at_call 100; with_reducible refine (rratio_calls (HR1.out.rv.ext HW4.out) HR2.out.rv LN1.out LN2.out HQ.out).mono ?_; rintro e w7 ⟨r, rfl, hr, he⟩; have HZ := Aside.mk (World.block_lt_of_cell? _ _ hk4.2.1.1); have HR7 := Aside.mk hr; obtain ⟨A7, c7, B7, d7, rfl⟩ := hr.form; have hk7 := Keep4.ext ((Ext.refl w7).alloc (.cells #[.int .i64 q.f, .bool q.neg, .slice A7 q.num.length c7, .slice B7 q.den.length d7] 83)) (Keep4.ext he hk4); have hb7 := KeepB.init w7 (.int .i64 q.f) (.bool q.neg) (.slice A7 q.num.length c7) (.slice B7 q.den.length d7) 83; clear hk4 hr he) | (go_at_call 100; with_reducible refine (rratio_calls ((HR1.out.rv.ext HW4.out).ext HW5.out) HR3.out.rv LN1.out LN2.out HQ.out).mono ?_; rintro e w7 ⟨r, rfl, hr, he⟩; have HZ := Aside.mk (World.block_lt_of_cell? _ _ hk5.2.1.1); have HR7 := Aside.mk hr; obtain ⟨A7, c7, B7, d7, rfl⟩ := hr.form; have hk7 := Keep4.ext ((Ext.refl w7).alloc (.cells #[.int .i64 q.f, .bool q.neg, .slice A7 q.num.length c7, .slice B7 q.den.length d7] 83)) (Keep4.ext he hk5); have hb7 := KeepB.init w7 (.int .i64 q.f) (.bool q.neg) (.slice A7 q.num.length c7) (.slice B7 q.den.length d7) 83; clear hk5 hr he) | (go_at_call 70; with_reducible refine (rtext_calls (HR7.out.rr.ext ((Ext.refl w7).alloc _)) HOK.out HTX.out).mono ?_; rintro e w8 ⟨rfl, he⟩; have hk8 := Keep4.ext he hk7; have hb8 := KeepB.ext he hb7; clear hk7 hb7 he))
      all_goals
        have HK := Aside.mk hk4
        refine bodyPost_ret (v := .tuple #[.agg #[.int .i64 0, .bool false, .slice none 0 0, .slice none 0 0], .int .i64 5]) (by simp [results, Tryz.results81, go_sem, hk4]) rfl ⟨_, rfl, RO.fq _ _ _, ext_set4 HK.out.1.out (Nat.le_refl _) _ _ _ _⟩
    · unfold Begins at hbg
      rcases hbg with ⟨h0, hb, hx, rfl⟩ | ⟨rfl, rfl, rfl⟩ | ⟨h0, hb, rfl, rfl⟩
      all_goals go_enter Tryz.func81, Tryz.ntmps81
      all_goals go_wp2_with (first | (go_at_call 120; refine (rcut_to (b := 47) rfl HL1.out HS2.out HS3.out HTW.out).mono ?_; rintro e w3 ⟨rfl, he⟩; have hk2 := Keep4.ext he hk0; clear hk0 he) | (go_at_call 121; with_reducible refine (rnum_to HL2.out HE1.out HP1.out).mono ?_; rintro e w4 ⟨r1, rfl, hr, he⟩; have hk3 := Keep4.ext he hk2; have HR1 := Aside.mk hr; obtain ⟨A1, c1, rfl, _⟩ := hr.form; clear hk2 hr he) | (go_at_call 122; refine rone_calls.mono ?_; rintro e w5 ⟨r2, rfl, hr, he⟩; have hk4 := Keep4.ext he hk3; have HW4 := Aside.mk he; have HR2 := Aside.mk hr; obtain ⟨A2, c2, rfl, _⟩ := hr.form; clear hk3 hr he) | (go_at_call 121; with_reducible refine (rnum_to HL3.out HE2.out HP2.out).mono ?_; rintro e w6 ⟨r3, rfl, hr, he⟩; have hk5 := Keep4.ext he hk4; have HW5 := Aside.mk he; have HR3 := Aside.mk hr; obtain ⟨A3, c3, rfl, _⟩ := hr.form; clear hk4 hr he) | (go_at_call 100; with_reducible refine (rratio_calls (HR1.out.rv.ext HW4.out) HR2.out.rv LN1.out LN2.out HQ.out).mono ?_; rintro e w7 ⟨r, rfl, hr, he⟩; have HZ := Aside.mk (World.block_lt_of_cell? _ _ hk4.2.1.1); have HR7 := Aside.mk hr; obtain ⟨A7, c7, B7, d7, rfl⟩ := hr.form; have hk7 := Keep4.ext ((Ext.refl w7).alloc (.cells #[.int .i64 q.f, .bool q.neg, .slice A7 q.num.length c7, .slice B7 q.den.length d7] 83)) (Keep4.ext he hk4); have hb7 := KeepB.init w7 (.int .i64 q.f) (.bool q.neg) (.slice A7 q.num.length c7) (.slice B7 q.den.length d7) 83; clear hk4 hr he) | (go_at_call 100; with_reducible refine (rratio_calls ((HR1.out.rv.ext HW4.out).ext HW5.out) HR3.out.rv LN1.out LN2.out HQ.out).mono ?_; rintro e w7 ⟨r, rfl, hr, he⟩; have HZ := Aside.mk (World.block_lt_of_cell? _ _ hk5.2.1.1); have HR7 := Aside.mk hr; obtain ⟨A7, c7, B7, d7, rfl⟩ := hr.form; have hk7 := Keep4.ext ((Ext.refl w7).alloc (.cells #[.int .i64 q.f, .bool q.neg, .slice A7 q.num.length c7, .slice B7 q.den.length d7] 83)) (Keep4.ext he hk5); have hb7 := KeepB.init w7 (.int .i64 q.f) (.bool q.neg) (.slice A7 q.num.length c7) (.slice B7 q.den.length d7) 83; clear hk5 hr he) | (go_at_call 70; with_reducible refine (rtext_calls (HR7.out.rr.ext ((Ext.refl w7).alloc _)) HOK.out HTX.out).mono ?_; rintro e w8 ⟨rfl, he⟩; have hk8 := Keep4.ext he hk7; have hb8 := KeepB.ext he hb7; clear hk7 hb7 he))
      all_goals
        have HK := Aside.mk hk5
        refine bodyPost_ret (v := .tuple #[.agg #[.int .i64 0, .bool false, .slice none 0 0, .slice none 0 0], .int .i64 5]) (by simp [results, Tryz.results81, go_sem, hk5]) rfl ⟨_, rfl, RO.fq _ _ _, ext_set4 HK.out.1.out (Nat.le_refl _) _ _ _ _⟩

set_option maxRecDepth 10000 in
set_option maxHeartbeats 4000000 in
theorem rparse_one {w : World} {s s1 s2 s3 : ByteArray} {nb : Bool} {n1 : Nat} {q : Rq} (hbg : Begins s s1 nb) (h49 : s.size ≤ 4900) (heq : (s.toList == [33, 114, 97, 110, 103, 101]) = false) (heq2 : (s.toList == [33, 122, 101, 114, 111]) = false) (HL1 : Aside (s1.size ≤ 1073741824)) (HL2 : Aside (s2.size ≤ 1073741824)) (HS2 : Aside ((⟨(Lib.cut s1.data.toList [47]).1.toArray⟩ : ByteArray) = s2)) (HS3 : Aside ((⟨(Lib.cut s1.data.toList [47]).2.1.toArray⟩ : ByteArray) = s3)) (HE1 : Aside (perr s2.data.toList = 0)) (HP1 : Aside (pdig s2.data.toList = dig n1)) (LN1 : Aside ((dig n1).length < 1073741824)) (HOK : Aside (okq q = true)) (HTW : Aside ((Lib.cut s1.data.toList [47]).2.2 = false)) (LN2 : Aside ((dig 1).length < 1073741824)) (HQ : Aside (ratio nb n1 1 = q)) {m : Rq × Int} (hm : m = if q.f = 0 ∧ rtext q = s.data.toList then (q, 0) else (fq 0, 5)) :
    Calls Tryz.prog 81 #[.string s] w fun e w' => ∃ r, e = .returned (.tuple #[r, .int .i64 m.2]) ∧ RO w.heap.size w' r m.1 ∧ Ext w w' := by
  have hk0 := Keep4.init (Ext.refl w) (.int .i64 0) (.bool false) (.slice none 0 0) (.slice none 0 0) 83
  have hbg := hbg.more HS2 HE1
  by_cases hf : q.f = 0
  · have hqf1 : (q.f == 0) = true := by rw [hf]; rfl
    have hqf2 : (q.f != 0) = false := by rw [hf]; rfl
    obtain ⟨st, hst⟩ : ∃ st : ByteArray, (⟨(rtext q).toArray⟩ : ByteArray) = st := ⟨_, rfl⟩
    have HTX := Aside.mk hst
    have hstl : st.data.toList = rtext q := by rw [← hst]
    by_cases ht : rtext q = s.data.toList
    · obtain ⟨t1, t2⟩ := string_beq (s := st) (t := s) (b := true) (by rw [hstl]; exact decide_eq_true ht)
      have t2 : (st.toList != s.toList) = false := t2
      have HM : Aside (m = (q, 0)) := ⟨hm.trans (if_pos ⟨hf, ht⟩)⟩
      rw [HM.out]
      clear hm ht hf hst hstl
      rcases hbg with ⟨h0, hb, hx, rfl⟩ | ⟨h0, hb, rfl, rfl⟩
      all_goals go_enter Tryz.func81, Tryz.ntmps81
      all_goals go_wp2_with (first | (go_at_call 120; refine (rcut_to (b := 47) rfl HL1.out HS2.out HS3.out HTW.out).mono ?_; rintro e w3 ⟨rfl, he⟩; have hk2 := Keep4.ext he hk0; clear hk0 he) | (go_at_call 121; with_reducible refine (rnum_to HL2.out HE1.out HP1.out).mono ?_; rintro e w4 ⟨r1, rfl, hr, he⟩; have hk3 := Keep4.ext he hk2; have HR1 := Aside.mk hr; obtain ⟨A1, c1, rfl, _⟩ := hr.form; clear hk2 hr he) | (go_at_call 122; refine rone_calls.mono ?_; rintro e w5 ⟨r2, rfl, hr, he⟩; have hk4 := Keep4.ext he hk3; have HW4 := Aside.mk he; have HR2 := Aside.mk hr; obtain ⟨A2, c2, rfl, _⟩ := hr.form; clear hk3 hr he) | (go_at_call 121; with_reducible refine (rnum_to HL3.out HE2.out HP2.out).mono ?_; rintro e w6 ⟨r3, rfl, hr, he⟩; have hk5 := Keep4.ext he hk4; have HW5 := Aside.mk he; have HR3 := Aside.mk hr; obtain ⟨A3, c3, rfl, _⟩ := hr.form; clear hk4 hr he) | (go_at_call 100; with_reducible refine (rratio_calls (HR1.out.rv.ext HW4.out) HR2.out.rv LN1.out LN2.out HQ.out).mono ?_; rintro e w7 ⟨r, rfl, hr, he⟩; have HZ := Aside.mk (World.block_lt_of_cell? _ _ hk4.2.1.1); have HR7 := Aside.mk hr; obtain ⟨A7, c7, B7, d7, rfl⟩ := hr.form; have hk7 := Keep4.ext ((Ext.refl w7).alloc (.cells #[.int .i64 q.f, .bool q.neg, .slice A7 q.num.length c7, .slice B7 q.den.length d7] 83)) (Keep4.ext he hk4); have hb7 := KeepB.init w7 (.int .i64 q.f) (.bool q.neg) (.slice A7 q.num.length c7) (.slice B7 q.den.length d7) 83; clear hk4 hr he) | (go_at_call 100; with_reducible refine (rratio_calls ((HR1.out.rv.ext HW4.out).ext HW5.out) HR3.out.rv LN1.out LN2.out HQ.out).mono ?_; rintro e w7 ⟨r, rfl, hr, he⟩; have HZ := Aside.mk (World.block_lt_of_cell? _ _ hk5.2.1.1); have HR7 := Aside.mk hr; obtain ⟨A7, c7, B7, d7, rfl⟩ := hr.form; have hk7 := Keep4.ext ((Ext.refl w7).alloc (.cells #[.int .i64 q.f, .bool q.neg, .slice A7 q.num.length c7, .slice B7 q.den.length d7] 83)) (Keep4.ext he hk5); have hb7 := KeepB.init w7 (.int .i64 q.f) (.bool q.neg) (.slice A7 q.num.length c7) (.slice B7 q.den.length d7) 83; clear hk5 hr he) | (go_at_call 70; with_reducible refine (rtext_calls (HR7.out.rr.ext ((Ext.refl w7).alloc _)) HOK.out HTX.out).mono ?_; rintro e w8 ⟨rfl, he⟩; have hk8 := Keep4.ext he hk7; have hb8 := KeepB.ext he hb7; clear hk7 hb7 he))
      all_goals
        have HK := Aside.mk hk8
        have HB := Aside.mk hb8
        refine bodyPost_ret (v := .tuple #[.agg #[.int .i64 q.f, .bool q.neg, .slice A7 q.num.length c7, .slice B7 q.den.length d7], .int .i64 0]) (by simp [results, Tryz.results81, go_sem, hk8]) rfl ⟨_, rfl, ?_, ext_set4 HK.out.1.out (Nat.le_refl _) _ _ _ _⟩
        exact ((HR7.out.ext HB.out.1.out).set4 HZ.out _ _ _ _).mono (Nat.le_of_lt HZ.out)
    · obtain ⟨t1, t2⟩ := string_beq (s := st) (t := s) (b := false) (by rw [hstl]; exact decide_eq_false ht)
      have t2 : (st.toList != s.toList) = true := t2
      have HM : Aside (m = (fq 0, 5)) := ⟨hm.trans (if_neg fun h => ht h.2)⟩
      rw [HM.out]
      clear hm ht hf hst hstl
      rcases hbg with ⟨h0, hb, hx, rfl⟩ | ⟨h0, hb, rfl, rfl⟩
      all_goals go_enter Tryz.func81, Tryz.ntmps81
      all_goals go_wp2_with (first | (go_at_call 120; refine (rcut_to (b := 47) rfl HL1.out HS2.out HS3.out HTW.out).mono ?_; rintro e w3 ⟨rfl, he⟩; have hk2 := Keep4.ext he hk0; clear hk0 he) | (go_at_call 121; with_reducible refine (rnum_to HL2.out HE1.out HP1.out).mono ?_; rintro e w4 ⟨r1, rfl, hr, he⟩; have hk3 := Keep4.ext he hk2; have HR1 := Aside.mk hr; obtain ⟨A1, c1, rfl, _⟩ := hr.form; clear hk2 hr he) | (go_at_call 122; refine rone_calls.mono ?_; rintro e w5 ⟨r2, rfl, hr, he⟩; have hk4 := Keep4.ext he hk3; have HW4 := Aside.mk he; have HR2 := Aside.mk hr; obtain ⟨A2, c2, rfl, _⟩ := hr.form; clear hk3 hr he) | (go_at_call 121; with_reducible refine (rnum_to HL3.out HE2.out HP2.out).mono ?_; rintro e w6 ⟨r3, rfl, hr, he⟩; have hk5 := Keep4.ext he hk4; have HW5 := Aside.mk he; have HR3 := Aside.mk hr; obtain ⟨A3, c3, rfl, _⟩ := hr.form; clear hk4 hr he) | (go_at_call 100; with_reducible refine (rratio_calls (HR1.out.rv.ext HW4.out) HR2.out.rv LN1.out LN2.out HQ.out).mono ?_; rintro e w7 ⟨r, rfl, hr, he⟩; have HZ := Aside.mk (World.block_lt_of_cell? _ _ hk4.2.1.1); have HR7 := Aside.mk hr; obtain ⟨A7, c7, B7, d7, rfl⟩ := hr.form; have hk7 := Keep4.ext ((Ext.refl w7).alloc (.cells #[.int .i64 q.f, .bool q.neg, .slice A7 q.num.length c7, .slice B7 q.den.length d7] 83)) (Keep4.ext he hk4); have hb7 := KeepB.init w7 (.int .i64 q.f) (.bool q.neg) (.slice A7 q.num.length c7) (.slice B7 q.den.length d7) 83; clear hk4 hr he) | (go_at_call 100; with_reducible refine (rratio_calls ((HR1.out.rv.ext HW4.out).ext HW5.out) HR3.out.rv LN1.out LN2.out HQ.out).mono ?_; rintro e w7 ⟨r, rfl, hr, he⟩; have HZ := Aside.mk (World.block_lt_of_cell? _ _ hk5.2.1.1); have HR7 := Aside.mk hr; obtain ⟨A7, c7, B7, d7, rfl⟩ := hr.form; have hk7 := Keep4.ext ((Ext.refl w7).alloc (.cells #[.int .i64 q.f, .bool q.neg, .slice A7 q.num.length c7, .slice B7 q.den.length d7] 83)) (Keep4.ext he hk5); have hb7 := KeepB.init w7 (.int .i64 q.f) (.bool q.neg) (.slice A7 q.num.length c7) (.slice B7 q.den.length d7) 83; clear hk5 hr he) | (go_at_call 70; with_reducible refine (rtext_calls (HR7.out.rr.ext ((Ext.refl w7).alloc _)) HOK.out HTX.out).mono ?_; rintro e w8 ⟨rfl, he⟩; have hk8 := Keep4.ext he hk7; have hb8 := KeepB.ext he hb7; clear hk7 hb7 he))
      all_goals
        have HK := Aside.mk hk8
        refine bodyPost_ret (v := .tuple #[.agg #[.int .i64 0, .bool false, .slice none 0 0, .slice none 0 0], .int .i64 5]) (by simp [results, Tryz.results81, go_sem, hk8]) rfl ⟨_, rfl, RO.fq _ _ _, ext_set4 HK.out.1.out (Nat.le_refl _) _ _ _ _⟩
  · have hqf1 : (q.f == 0) = false := beq_eq_false_iff_ne.2 hf
    have hqf2 : (q.f != 0) = true := by simp [bne, hqf1]
    have HM : Aside (m = (fq 0, 5)) := ⟨hm.trans (if_neg fun h => hf h.1)⟩
    rw [HM.out]
    clear hm hf
    rcases hbg with ⟨h0, hb, hx, rfl⟩ | ⟨h0, hb, rfl, rfl⟩
    all_goals go_enter Tryz.func81, Tryz.ntmps81
    all_goals go_wp2_with (first | (go_at_call 120; refine (rcut_to (b := 47) rfl HL1.out HS2.out HS3.out HTW.out).mono ?_; rintro e w3 ⟨rfl, he⟩; have hk2 := Keep4.ext he hk0; clear hk0 he) | (go_at_call 121; with_reducible refine (rnum_to HL2.out HE1.out HP1.out).mono ?_; rintro e w4 ⟨r1, rfl, hr, he⟩; have hk3 := Keep4.ext he hk2; have HR1 := Aside.mk hr; obtain ⟨A1, c1, rfl, _⟩ := hr.form; clear hk2 hr he) | (go_at_call 122; refine rone_calls.mono ?_; rintro e w5 ⟨r2, rfl, hr, he⟩; have hk4 := Keep4.ext he hk3; have HW4 := Aside.mk he; have HR2 := Aside.mk hr; obtain ⟨A2, c2, rfl, _⟩ := hr.form; clear hk3 hr he) | (go_at_call 121; with_reducible refine (rnum_to HL3.out HE2.out HP2.out).mono ?_; rintro e w6 ⟨r3, rfl, hr, he⟩; have hk5 := Keep4.ext he hk4; have HW5 := Aside.mk he; have HR3 := Aside.mk hr; obtain ⟨A3, c3, rfl, _⟩ := hr.form; clear hk4 hr he) | (go_at_call 100; with_reducible refine (rratio_calls (HR1.out.rv.ext HW4.out) HR2.out.rv LN1.out LN2.out HQ.out).mono ?_; rintro e w7 ⟨r, rfl, hr, he⟩; have HZ := Aside.mk (World.block_lt_of_cell? _ _ hk4.2.1.1); have HR7 := Aside.mk hr; obtain ⟨A7, c7, B7, d7, rfl⟩ := hr.form; have hk7 := Keep4.ext ((Ext.refl w7).alloc (.cells #[.int .i64 q.f, .bool q.neg, .slice A7 q.num.length c7, .slice B7 q.den.length d7] 83)) (Keep4.ext he hk4); have hb7 := KeepB.init w7 (.int .i64 q.f) (.bool q.neg) (.slice A7 q.num.length c7) (.slice B7 q.den.length d7) 83; clear hk4 hr he) | (go_at_call 100; with_reducible refine (rratio_calls ((HR1.out.rv.ext HW4.out).ext HW5.out) HR3.out.rv LN1.out LN2.out HQ.out).mono ?_; rintro e w7 ⟨r, rfl, hr, he⟩; have HZ := Aside.mk (World.block_lt_of_cell? _ _ hk5.2.1.1); have HR7 := Aside.mk hr; obtain ⟨A7, c7, B7, d7, rfl⟩ := hr.form; have hk7 := Keep4.ext ((Ext.refl w7).alloc (.cells #[.int .i64 q.f, .bool q.neg, .slice A7 q.num.length c7, .slice B7 q.den.length d7] 83)) (Keep4.ext he hk5); have hb7 := KeepB.init w7 (.int .i64 q.f) (.bool q.neg) (.slice A7 q.num.length c7) (.slice B7 q.den.length d7) 83; clear hk5 hr he) | (go_at_call 70; with_reducible refine (rtext_calls (HR7.out.rr.ext ((Ext.refl w7).alloc _)) HOK.out HTX.out).mono ?_; rintro e w8 ⟨rfl, he⟩; have hk8 := Keep4.ext he hk7; have hb8 := KeepB.ext he hb7; clear hk7 hb7 he))
    all_goals
      have HK := Aside.mk hk7
      refine bodyPost_ret (v := .tuple #[.agg #[.int .i64 0, .bool false, .slice none 0 0, .slice none 0 0], .int .i64 5]) (by simp [results, Tryz.results81, go_sem, hk7]) rfl ⟨_, rfl, RO.fq _ _ _, ext_set4 HK.out.1.out (Nat.le_refl _) _ _ _ _⟩
set_option maxRecDepth 10000 in
set_option maxHeartbeats 4000000 in
theorem rparse_two {w : World} {s s1 s2 s3 : ByteArray} {nb : Bool} {n1 : Nat} {q : Rq} (hbg : Begins s s1 nb) (h49 : s.size ≤ 4900) (heq : (s.toList == [33, 114, 97, 110, 103, 101]) = false) (heq2 : (s.toList == [33, 122, 101, 114, 111]) = false) (HL1 : Aside (s1.size ≤ 1073741824)) (HL2 : Aside (s2.size ≤ 1073741824)) (HS2 : Aside ((⟨(Lib.cut s1.data.toList [47]).1.toArray⟩ : ByteArray) = s2)) (HS3 : Aside ((⟨(Lib.cut s1.data.toList [47]).2.1.toArray⟩ : ByteArray) = s3)) (HE1 : Aside (perr s2.data.toList = 0)) (HP1 : Aside (pdig s2.data.toList = dig n1)) (LN1 : Aside ((dig n1).length < 1073741824)) (HOK : Aside (okq q = true)) {n2 : Nat} (HL3 : Aside (s3.size ≤ 1073741824)) (HTW : Aside ((Lib.cut s1.data.toList [47]).2.2 = true)) (HE2 : Aside (perr s3.data.toList = 0)) (HP2 : Aside (pdig s3.data.toList = dig n2)) (LN2 : Aside ((dig n2).length < 1073741824)) (HQ : Aside (ratio nb n1 n2 = q)) {m : Rq × Int} (hm : m = if q.f = 0 ∧ rtext q = s.data.toList then (q, 0) else (fq 0, 5)) :
    Calls Tryz.prog 81 #[.string s] w fun e w' => ∃ r, e = .returned (.tuple #[r, .int .i64 m.2]) ∧ RO w.heap.size w' r m.1 ∧ Ext w w' := by
  have hk0 := Keep4.init (Ext.refl w) (.int .i64 0) (.bool false) (.slice none 0 0) (.slice none 0 0) 83
  have hbg := hbg.more HS2 HE1
  by_cases hf : q.f = 0
  · have hqf1 : (q.f == 0) = true := by rw [hf]; rfl
    have hqf2 : (q.f != 0) = false := by rw [hf]; rfl
    obtain ⟨st, hst⟩ : ∃ st : ByteArray, (⟨(rtext q).toArray⟩ : ByteArray) = st := ⟨_, rfl⟩
    have HTX := Aside.mk hst
    have hstl : st.data.toList = rtext q := by rw [← hst]
    by_cases ht : rtext q = s.data.toList
    · obtain ⟨t1, t2⟩ := string_beq (s := st) (t := s) (b := true) (by rw [hstl]; exact decide_eq_true ht)
      have t2 : (st.toList != s.toList) = false := t2
      have HM : Aside (m = (q, 0)) := ⟨hm.trans (if_pos ⟨hf, ht⟩)⟩
      rw [HM.out]
      clear hm ht hf hst hstl
      rcases hbg with ⟨h0, hb, hx, rfl⟩ | ⟨h0, hb, rfl, rfl⟩
      all_goals go_enter Tryz.func81, Tryz.ntmps81
      all_goals go_wp2_with (first | (go_at_call 120; refine (rcut_to (b := 47) rfl HL1.out HS2.out HS3.out HTW.out).mono ?_; rintro e w3 ⟨rfl, he⟩; have hk2 := Keep4.ext he hk0; clear hk0 he) | (go_at_call 121; with_reducible refine (rnum_to HL2.out HE1.out HP1.out).mono ?_; rintro e w4 ⟨r1, rfl, hr, he⟩; have hk3 := Keep4.ext he hk2; have HR1 := Aside.mk hr; obtain ⟨A1, c1, rfl, _⟩ := hr.form; clear hk2 hr he) | (go_at_call 122; refine rone_calls.mono ?_; rintro e w5 ⟨r2, rfl, hr, he⟩; have hk4 := Keep4.ext he hk3; have HW4 := Aside.mk he; have HR2 := Aside.mk hr; obtain ⟨A2, c2, rfl, _⟩ := hr.form; clear hk3 hr he) | (go_at_call 121; with_reducible refine (rnum_to HL3.out HE2.out HP2.out).mono ?_; rintro e w6 ⟨r3, rfl, hr, he⟩; have hk5 := Keep4.ext he hk4; have HW5 := Aside.mk he; have HR3 := Aside.mk hr; obtain ⟨A3, c3, rfl, _⟩ := hr.form; clear hk4 hr he) | (go_at_call 100; with_reducible refine (rratio_calls (HR1.out.rv.ext HW4.out) HR2.out.rv LN1.out LN2.out HQ.out).mono ?_; rintro e w7 ⟨r, rfl, hr, he⟩; have HZ := Aside.mk (World.block_lt_of_cell? _ _ hk4.2.1.1); have HR7 := Aside.mk hr; obtain ⟨A7, c7, B7, d7, rfl⟩ := hr.form; have hk7 := Keep4.ext ((Ext.refl w7).alloc (.cells #[.int .i64 q.f, .bool q.neg, .slice A7 q.num.length c7, .slice B7 q.den.length d7] 83)) (Keep4.ext he hk4); have hb7 := KeepB.init w7 (.int .i64 q.f) (.bool q.neg) (.slice A7 q.num.length c7) (.slice B7 q.den.length d7) 83; clear hk4 hr he) | (go_at_call 100; with_reducible refine (rratio_calls ((HR1.out.rv.ext HW4.out).ext HW5.out) HR3.out.rv LN1.out LN2.out HQ.out).mono ?_; rintro e w7 ⟨r, rfl, hr, he⟩; have HZ := Aside.mk (World.block_lt_of_cell? _ _ hk5.2.1.1); have HR7 := Aside.mk hr; obtain ⟨A7, c7, B7, d7, rfl⟩ := hr.form; have hk7 := Keep4.ext ((Ext.refl w7).alloc (.cells #[.int .i64 q.f, .bool q.neg, .slice A7 q.num.length c7, .slice B7 q.den.length d7] 83)) (Keep4.ext he hk5); have hb7 := KeepB.init w7 (.int .i64 q.f) (.bool q.neg) (.slice A7 q.num.length c7) (.slice B7 q.den.length d7) 83; clear hk5 hr he) | (go_at_call 70; with_reducible refine (rtext_calls (HR7.out.rr.ext ((Ext.refl w7).alloc _)) HOK.out HTX.out).mono ?_; rintro e w8 ⟨rfl, he⟩; have hk8 := Keep4.ext he hk7; have hb8 := KeepB.ext he hb7; clear hk7 hb7 he))
      all_goals
        have HK := Aside.mk hk8
        have HB := Aside.mk hb8
        refine bodyPost_ret (v := .tuple #[.agg #[.int .i64 q.f, .bool q.neg, .slice A7 q.num.length c7, .slice B7 q.den.length d7], .int .i64 0]) (by simp [results, Tryz.results81, go_sem, hk8]) rfl ⟨_, rfl, ?_, ext_set4 HK.out.1.out (Nat.le_refl _) _ _ _ _⟩
        exact ((HR7.out.ext HB.out.1.out).set4 HZ.out _ _ _ _).mono (Nat.le_of_lt HZ.out)
    · obtain ⟨t1, t2⟩ := string_beq (s := st) (t := s) (b := false) (by rw [hstl]; exact decide_eq_false ht)
      have t2 : (st.toList != s.toList) = true := t2
      have HM : Aside (m = (fq 0, 5)) := ⟨hm.trans (if_neg fun h => ht h.2)⟩
      rw [HM.out]
      clear hm ht hf hst hstl
      rcases hbg with ⟨h0, hb, hx, rfl⟩ | ⟨h0, hb, rfl, rfl⟩
      all_goals go_enter Tryz.func81, Tryz.ntmps81
      all_goals go_wp2_with (first | (go_at_call 120; refine (rcut_to (b := 47) rfl HL1.out HS2.out HS3.out HTW.out).mono ?_; rintro e w3 ⟨rfl, he⟩; have hk2 := Keep4.ext he hk0; clear hk0 he) | (go_at_call 121; with_reducible refine (rnum_to HL2.out HE1.out HP1.out).mono ?_; rintro e w4 ⟨r1, rfl, hr, he⟩; have hk3 := Keep4.ext he hk2; have HR1 := Aside.mk hr; obtain ⟨A1, c1, rfl, _⟩ := hr.form; clear hk2 hr he) | (go_at_call 122; refine rone_calls.mono ?_; rintro e w5 ⟨r2, rfl, hr, he⟩; have hk4 := Keep4.ext he hk3; have HW4 := Aside.mk he; have HR2 := Aside.mk hr; obtain ⟨A2, c2, rfl, _⟩ := hr.form; clear hk3 hr he) | (go_at_call 121; with_reducible refine (rnum_to HL3.out HE2.out HP2.out).mono ?_; rintro e w6 ⟨r3, rfl, hr, he⟩; have hk5 := Keep4.ext he hk4; have HW5 := Aside.mk he; have HR3 := Aside.mk hr; obtain ⟨A3, c3, rfl, _⟩ := hr.form; clear hk4 hr he) | (go_at_call 100; with_reducible refine (rratio_calls (HR1.out.rv.ext HW4.out) HR2.out.rv LN1.out LN2.out HQ.out).mono ?_; rintro e w7 ⟨r, rfl, hr, he⟩; have HZ := Aside.mk (World.block_lt_of_cell? _ _ hk4.2.1.1); have HR7 := Aside.mk hr; obtain ⟨A7, c7, B7, d7, rfl⟩ := hr.form; have hk7 := Keep4.ext ((Ext.refl w7).alloc (.cells #[.int .i64 q.f, .bool q.neg, .slice A7 q.num.length c7, .slice B7 q.den.length d7] 83)) (Keep4.ext he hk4); have hb7 := KeepB.init w7 (.int .i64 q.f) (.bool q.neg) (.slice A7 q.num.length c7) (.slice B7 q.den.length d7) 83; clear hk4 hr he) | (go_at_call 100; with_reducible refine (rratio_calls ((HR1.out.rv.ext HW4.out).ext HW5.out) HR3.out.rv LN1.out LN2.out HQ.out).mono ?_; rintro e w7 ⟨r, rfl, hr, he⟩; have HZ := Aside.mk (World.block_lt_of_cell? _ _ hk5.2.1.1); have HR7 := Aside.mk hr; obtain ⟨A7, c7, B7, d7, rfl⟩ := hr.form; have hk7 := Keep4.ext ((Ext.refl w7).alloc (.cells #[.int .i64 q.f, .bool q.neg, .slice A7 q.num.length c7, .slice B7 q.den.length d7] 83)) (Keep4.ext he hk5); have hb7 := KeepB.init w7 (.int .i64 q.f) (.bool q.neg) (.slice A7 q.num.length c7) (.slice B7 q.den.length d7) 83; clear hk5 hr he) | (go_at_call 70; with_reducible refine (rtext_calls (HR7.out.rr.ext ((Ext.refl w7).alloc _)) HOK.out HTX.out).mono ?_; rintro e w8 ⟨rfl, he⟩; have hk8 := Keep4.ext he hk7; have hb8 := KeepB.ext he hb7; clear hk7 hb7 he))
      all_goals
        have HK := Aside.mk hk8
        refine bodyPost_ret (v := .tuple #[.agg #[.int .i64 0, .bool false, .slice none 0 0, .slice none 0 0], .int .i64 5]) (by simp [results, Tryz.results81, go_sem, hk8]) rfl ⟨_, rfl, RO.fq _ _ _, ext_set4 HK.out.1.out (Nat.le_refl _) _ _ _ _⟩
  · have hqf1 : (q.f == 0) = false := beq_eq_false_iff_ne.2 hf
    have hqf2 : (q.f != 0) = true := by simp [bne, hqf1]
    have HM : Aside (m = (fq 0, 5)) := ⟨hm.trans (if_neg fun h => hf h.1)⟩
    rw [HM.out]
    clear hm hf
    rcases hbg with ⟨h0, hb, hx, rfl⟩ | ⟨h0, hb, rfl, rfl⟩
    all_goals go_enter Tryz.func81, Tryz.ntmps81
    all_goals go_wp2_with (first | (go_at_call 120; refine (rcut_to (b := 47) rfl HL1.out HS2.out HS3.out HTW.out).mono ?_; rintro e w3 ⟨rfl, he⟩; have hk2 := Keep4.ext he hk0; clear hk0 he) | (go_at_call 121; with_reducible refine (rnum_to HL2.out HE1.out HP1.out).mono ?_; rintro e w4 ⟨r1, rfl, hr, he⟩; have hk3 := Keep4.ext he hk2; have HR1 := Aside.mk hr; obtain ⟨A1, c1, rfl, _⟩ := hr.form; clear hk2 hr he) | (go_at_call 122; refine rone_calls.mono ?_; rintro e w5 ⟨r2, rfl, hr, he⟩; have hk4 := Keep4.ext he hk3; have HW4 := Aside.mk he; have HR2 := Aside.mk hr; obtain ⟨A2, c2, rfl, _⟩ := hr.form; clear hk3 hr he) | (go_at_call 121; with_reducible refine (rnum_to HL3.out HE2.out HP2.out).mono ?_; rintro e w6 ⟨r3, rfl, hr, he⟩; have hk5 := Keep4.ext he hk4; have HW5 := Aside.mk he; have HR3 := Aside.mk hr; obtain ⟨A3, c3, rfl, _⟩ := hr.form; clear hk4 hr he) | (go_at_call 100; with_reducible refine (rratio_calls (HR1.out.rv.ext HW4.out) HR2.out.rv LN1.out LN2.out HQ.out).mono ?_; rintro e w7 ⟨r, rfl, hr, he⟩; have HZ := Aside.mk (World.block_lt_of_cell? _ _ hk4.2.1.1); have HR7 := Aside.mk hr; obtain ⟨A7, c7, B7, d7, rfl⟩ := hr.form; have hk7 := Keep4.ext ((Ext.refl w7).alloc (.cells #[.int .i64 q.f, .bool q.neg, .slice A7 q.num.length c7, .slice B7 q.den.length d7] 83)) (Keep4.ext he hk4); have hb7 := KeepB.init w7 (.int .i64 q.f) (.bool q.neg) (.slice A7 q.num.length c7) (.slice B7 q.den.length d7) 83; clear hk4 hr he) | (go_at_call 100; with_reducible refine (rratio_calls ((HR1.out.rv.ext HW4.out).ext HW5.out) HR3.out.rv LN1.out LN2.out HQ.out).mono ?_; rintro e w7 ⟨r, rfl, hr, he⟩; have HZ := Aside.mk (World.block_lt_of_cell? _ _ hk5.2.1.1); have HR7 := Aside.mk hr; obtain ⟨A7, c7, B7, d7, rfl⟩ := hr.form; have hk7 := Keep4.ext ((Ext.refl w7).alloc (.cells #[.int .i64 q.f, .bool q.neg, .slice A7 q.num.length c7, .slice B7 q.den.length d7] 83)) (Keep4.ext he hk5); have hb7 := KeepB.init w7 (.int .i64 q.f) (.bool q.neg) (.slice A7 q.num.length c7) (.slice B7 q.den.length d7) 83; clear hk5 hr he) | (go_at_call 70; with_reducible refine (rtext_calls (HR7.out.rr.ext ((Ext.refl w7).alloc _)) HOK.out HTX.out).mono ?_; rintro e w8 ⟨rfl, he⟩; have hk8 := Keep4.ext he hk7; have hb8 := KeepB.ext he hb7; clear hk7 hb7 he))
    all_goals
      have HK := Aside.mk hk7
      refine bodyPost_ret (v := .tuple #[.agg #[.int .i64 0, .bool false, .slice none 0 0, .slice none 0 0], .int .i64 5]) (by simp [results, Tryz.results81, go_sem, hk7]) rfl ⟨_, rfl, RO.fq _ _ _, ext_set4 HK.out.1.out (Nat.le_refl _) _ _ _ _⟩
theorem perr_len {l : List UInt8} (h : perr l = 0) : (dig (dval l)).length < 1073741824 := by
  unfold perr at h
  split at h
  · omega
  · rename_i hl
    split at h
    · omega
    · split at h
      · rename_i hd
        have := dval_len hd
        omega
      · omega
/-- Parse returns the Rat with a text. -/
theorem rparse_calls {w : World} {s : ByteArray} (hs : s.size ≤ 1073741824) {m : Rq × Int} (hm : fparse s.data.toList = m) :
    Calls Tryz.prog 81 #[.string s] w fun e w' => ∃ r, e = .returned (.tuple #[r, .int .i64 m.2]) ∧ RO w.heap.size w' r m.1 ∧ Ext w w' := by
  rw [← rparse_eq] at hm
  have hsz : s.data.toList.length = s.size := (Lib.size_eq s).symm
  by_cases h49 : 4900 < s.size
  · exact rparse_early hs hm (.inl h49)
  · by_cases hr : s.data.toList = rangeB.data.toList
    · exact rparse_early hs hm (.inr (.inl hr))
    · by_cases hz : s.data.toList = zeroB.data.toList
      · exact rparse_early hs hm (.inr (.inr hz))
      · have heq : (s.toList == [33, 114, 97, 110, 103, 101]) = false := by rw [Lib.toList_data]; exact beq_eq_false_iff_ne.2 hr
        have heq2 : (s.toList == [33, 122, 101, 114, 111]) = false := by rw [Lib.toList_data]; exact beq_eq_false_iff_ne.2 hz
        obtain ⟨s1, nb, hbg, hn, ht⟩ := begins s
        have hl1 : s1.size ≤ 4900 := by
          rw [Lib.size_eq, ← ht]
          have := trimPrefix_len s.data.toList [45]
          omega
        unfold rparse at hm
        rw [if_neg (by omega), if_neg hr, if_neg hz, hn, ht] at hm
        obtain ⟨s2, hs2⟩ : ∃ s2 : ByteArray, (⟨(Lib.cut s1.data.toList [47]).1.toArray⟩ : ByteArray) = s2 := ⟨_, rfl⟩
        obtain ⟨s3, hs3⟩ : ∃ s3 : ByteArray, (⟨(Lib.cut s1.data.toList [47]).2.1.toArray⟩ : ByteArray) = s3 := ⟨_, rfl⟩
        obtain ⟨tw, htw⟩ : ∃ tw, (Lib.cut s1.data.toList [47]).2.2 = tw := ⟨_, rfl⟩
        have hs2l : (Lib.cut s1.data.toList [47]).1 = s2.data.toList := by rw [← hs2]
        have hs3l : (Lib.cut s1.data.toList [47]).2.1 = s3.data.toList := by rw [← hs3]
        have hcl := cut_len s1.data.toList [47]
        rw [hs2l, hs3l, ← Lib.size_eq, ← Lib.size_eq, ← Lib.size_eq] at hcl
        rw [hs2l, hs3l, htw] at hm
        have hL1 : s1.size ≤ 1073741824 := by omega
        have hL2 : s2.size ≤ 1073741824 := by omega
        have hL3 : s3.size ≤ 1073741824 := by omega
        unfold rparts at hm
        by_cases hE : perr s2.data.toList = 0 ∧ (tw = true → perr s3.data.toList = 0)
        · rw [if_pos hE] at hm
          obtain ⟨hE1, hE2⟩ := hE
          cases tw
          · exact rparse_one (n1 := dval s2.data.toList) hbg (by omega) heq heq2 ⟨hL1⟩ ⟨hL2⟩ ⟨hs2⟩ ⟨hs3⟩ ⟨hE1⟩ ⟨pdig_ok hE1⟩ ⟨perr_len hE1⟩ ⟨ratio_okq _ _ _⟩ ⟨htw⟩ ⟨by rw [dig_one]; decide⟩ ⟨rfl⟩ hm.symm
          · exact rparse_two (n1 := dval s2.data.toList) (n2 := dval s3.data.toList) hbg (by omega) heq heq2 ⟨hL1⟩ ⟨hL2⟩ ⟨hs2⟩ ⟨hs3⟩ ⟨hE1⟩ ⟨pdig_ok hE1⟩ ⟨perr_len hE1⟩ ⟨ratio_okq _ _ _⟩ ⟨hL3⟩ ⟨htw⟩ ⟨hE2 rfl⟩ ⟨pdig_ok (hE2 rfl)⟩ ⟨perr_len (hE2 rfl)⟩ ⟨rfl⟩ hm.symm
        · rw [if_neg hE] at hm
          subst hm
          refine rparse_err1 hbg (by omega) heq heq2 ⟨hL1⟩ ⟨hL2⟩ ⟨hL3⟩ ⟨hs2⟩ ⟨hs3⟩ ⟨htw⟩ ⟨rfl⟩ ⟨rfl⟩ ?_
          by_cases h1 : perr s2.data.toList = 0
          · refine .inr ?_
            cases tw
            · exact absurd ⟨h1, fun h => by cases h⟩ hE
            · exact ⟨rfl, fun h2 => hE ⟨h1, fun _ => h2⟩⟩
          · exact .inl h1
end Go.Proofs.YtcbaipnphepbeaaGreatDoor
