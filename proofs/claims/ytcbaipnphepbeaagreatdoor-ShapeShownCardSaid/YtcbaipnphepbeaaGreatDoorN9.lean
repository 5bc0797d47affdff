/- A box of a value beside another that is stored to; a type as a raw argument. What fit gives is a value; what Read says of the text of one; plain. -/
import Derived.Test.YtcbaipnphepbeaaGreatDoorNv
import Derived.Test.YtcbaipnphepbeaaGreatDoorN2
import Derived.Test.YtcbaipnphepbeaaGreatDoorN3
namespace Go.Proofs.YtcbaipnphepbeaaGreatDoor
open Go.RowKit

theorem TL.of {w : World} {d : Value} {k : Int} {ds : List Int} (h : IV w d ds) : TL w (.agg #[.int .i64 k, d]) k ds := by
  obtain ⟨A, c, xs, e, h1, h2, h3, h4, h5⟩ := h.sv
  exact ⟨d, rfl, A, c, xs, e, h1, Nat.le_trans h2 (by decide), h4, h5⟩
theorem dims_of {es : List Int} (h : (es.length : Int) ≤ 3) (hs : Small es) : Dims es := ⟨by omega, hs⟩
theorem KeepB.lt {w w1 : World} {x0 x1 x2 x3 : Value} (h : KeepB w x0 x1 x2 x3 w1) : w.heap.size < w1.heap.size := World.block_lt_of_cell? w1 ⟨w.heap.size, 0, none⟩ h.2.1
theorem KeepB.set {w w1 : World} {x0 x1 x2 x3 : Value} (h : KeepB w x0 x1 x2 x3 w1) {g : Nat} (hg : w.heap.size < g) (j : Nat) (v : Value) : KeepB w x0 x1 x2 x3 (w1.setCell ⟨g, j, none⟩ v) := by
  have hc : ∀ {q : Nat} {u : Value}, w1.cell? ⟨w.heap.size, q, none⟩ = some u → (w1.setCell ⟨g, j, none⟩ v).cell? ⟨w.heap.size, q, none⟩ = some u := fun h => (World.cell?_setCell_other _ _ _ v (by intro hh; injection hh with hh; omega)).trans h
  exact ⟨⟨Below.setCell h.1.out (Nat.le_of_lt hg) v⟩, hc h.2.1, hc h.2.2.1, hc h.2.2.2.1, hc h.2.2.2.2⟩
theorem KeepB.set4 {w w1 : World} {x0 x1 x2 x3 : Value} (h : KeepB w x0 x1 x2 x3 w1) {g : Nat} (hg : w.heap.size < g) (v0 v1 v2 v3 : Value) :
    KeepB w x0 x1 x2 x3 ((((w1.setCell ⟨g, 0, none⟩ v0).setCell ⟨g, 1, none⟩ v1).setCell ⟨g, 2, none⟩ v2).setCell ⟨g, 3, none⟩ v3) := (((h.set hg 0 v0).set hg 1 v1).set hg 2 v2).set hg 3 v3
theorem IV.first {w : World} {A : Option Addr} {n c : Nat} {d : Int} {ds : List Int} (h : IV w (.slice A n c) (d :: ds)) : ∃ b o, A = some ⟨b, o, none⟩ ∧ w.cell? ⟨b, o, none⟩ = some (.int .i64 d) ∧ n = ds.length + 1 ∧ n ≤ c := by
  obtain ⟨A', c', e, hc, -, hs, -⟩ := id h
  injection e with e1 e2 e3
  subst e1 e2 e3
  obtain ⟨ad, rfl, hcell⟩ := IV.at' h 0 (by simp)
  have hsp := hs ad rfl
  obtain ⟨b, o, sp⟩ := ad
  dsimp only at hsp
  subst hsp
  exact ⟨b, o, rfl, by simpa [Addr.add] using hcell, rfl, hc⟩
end Go.Proofs.YtcbaipnphepbeaaGreatDoor

namespace Go.Proofs.YtcbaipnphepbeaaGreatDoor
open Go.RowKit

theorem fitQ_okq (ns : List Rq) (i : Nat) : okq (fitQ ns i) = true := by
  unfold fitQ
  split
  · split
    · assumption
    · decide
  · decide
theorem fitB1_okb (bs : List Bq) (i : Nat) : okb (fitB1 bs i).f (fitB1 bs i).on = true := by
  unfold fitB1
  split
  · split
    · assumption
    · decide
  · decide
theorem fitV_ok {k : Int} {ds : List Int} {ns : List Rq} {bs : List Bq} (hk : k = 1 ∨ k = 2) (hd : Dims ds) : valOk (fitV k ds ns bs) = true := by
  have hp := hd.prod
  have ht : tyOk k ds = true := by
    unfold tyOk
    have h3 : ds.any badd = false := by
      rw [List.any_eq_false]
      intro d hm
      have := hd.2 d hm
      simp [badd]
      omega
    rw [h3, if_pos hk]
    simp [hd.1]
  have hq : (fitN ns (nQ (k, ds)) (nQ (k, ds))).any (fun q => !okq q) = false := by
    rw [List.any_eq_false]
    intro q hq
    unfold fitN at hq
    obtain ⟨i, hi, rfl⟩ := List.mem_map.1 hq
    rw [if_pos (List.mem_range.1 hi), fitQ_okq]
    decide
  have hb : (fitB bs (bQ (k, ds)) (bQ (k, ds))).any (fun b => !okb b.f b.on) = false := by
    rw [List.any_eq_false]
    intro q hq
    unfold fitB at hq
    obtain ⟨i, hi, rfl⟩ := List.mem_map.1 hq
    rw [if_pos (List.mem_range.1 hi), fitB1_okb]
    decide
  unfold valOk
  show (tyOk k ds && (if k = 1 then (((fitN ns (nQ (k, ds)) (nQ (k, ds))).length : Int) == prodI ds) && (((fitB bs (bQ (k, ds)) (bQ (k, ds))).length : Int) == 0) && !((fitN ns (nQ (k, ds)) (nQ (k, ds))).any fun q => !okq q)
    else if k = 2 then (((fitB bs (bQ (k, ds)) (bQ (k, ds))).length : Int) == prodI ds) && (((fitN ns (nQ (k, ds)) (nQ (k, ds))).length : Int) == 0) && !((fitB bs (bQ (k, ds)) (bQ (k, ds))).any fun b => !okb b.f b.on) else false)) = true
  rw [ht, hq, hb, fitN_len, fitB_len]
  unfold nQ bQ
  rcases hk with rfl | rfl
  · simp
    omega
  · simp
    omega
/-- No element of a value of Kind Flag that is no fault. -/
def allF (v : Vq) : Bool := decide (0 < v.bits.length) && v.bits.all fun b => b.f != 0
theorem bitT_fault {b : Bq} (h : b.f ≠ 0) : bitT b = (faultB b.f).data.toList := by unfold bitT bitB; rw [if_pos h]
theorem kind_not {v : Vq} (h : valOk v = true) (hf : allF v = false) : kindW (wordsV v) = v.k := by
  unfold kindW wordsV
  rcases valOk_elems h with ⟨hk, hb, hq⟩ | ⟨hk, hn, hb⟩
  · rw [if_pos hk, hk, if_neg]
    rintro (h | h)
    · obtain ⟨q, _, e⟩ := List.mem_map.1 h
      exact (rtext_ne q).1 e
    · obtain ⟨q, _, e⟩ := List.mem_map.1 h
      exact (rtext_ne q).2 e
  · have hl := words_len h
    have hp := (valOk_dims h).prod
    unfold wordsV at hl
    rw [if_neg (by omega), List.length_map] at hl
    unfold allF at hf
    simp only [Bool.and_eq_false_iff, decide_eq_false_iff_not] at hf
    rcases hf with hf | hf
    · omega
    rw [List.all_eq_false] at hf
    obtain ⟨b, hm, hbf⟩ := hf
    have hbf : b.f = 0 := by simpa using hbf
    rw [if_neg (show ¬ v.k = 1 by omega), hk, if_pos]
    have : bitT b = yesT ∨ bitT b = noT := by
      unfold bitT bitB
      rw [if_neg (by simp [hbf])]
      cases b.on
      · exact .inr (by decide)
      · exact .inl (by decide)
    rcases this with e | e
    · exact .inl (List.mem_map.2 ⟨b, hm, e⟩)
    · exact .inr (List.mem_map.2 ⟨b, hm, e⟩)
/-- The same, read as numbers. -/
def numsOf (v : Vq) : Vq := ⟨1, v.ds, v.bits.map fun b => fq b.f, []⟩
theorem read_faults {v : Vq} (h : valOk v = true) (hf : allF v = true) (hl : (showV v).length ≤ 20000) : readF (showV v) = (numsOf v, 0) := by
  unfold allF at hf
  simp only [Bool.and_eq_true, decide_eq_true_eq, List.all_eq_true] at hf
  rcases valOk_elems h with ⟨hk, hb, hq⟩ | ⟨hk, hn, hb⟩
  · rw [hb] at hf; exact absurd hf.1 (by simp)
  have hbf : ∀ b ∈ v.bits, b.f = 4 ∨ b.f = 11 := fun b hm => by
    have h1 := hb b hm
    have h2 := hf.2 b hm
    simp only [bne_iff_ne, ne_eq] at h2
    unfold okb at h1
    simp only [Bool.or_eq_true, Bool.and_eq_true, beq_iff_eq] at h1
    rcases h1 with h1 | h1
    · exact absurd h1 h2
    · exact h1.1
  have hw : wordsV (numsOf v) = wordsV v := by
    unfold wordsV numsOf
    rw [if_pos rfl, if_neg (by omega)]
    show (v.bits.map fun b => fq b.f).map rtext = _
    rw [List.map_map]
    apply List.map_congr_left
    intro b hm
    have h0 : b.f ≠ 0 := by rcases hbf b hm with e | e <;> omega
    show rtext (fq b.f) = bitT b
    rw [bitT_fault h0]
    unfold rtext
    rw [if_neg (by exact h0)]
    rfl
  have hv : valOk (numsOf v) = true := by
    have h2 := h
    have hl := words_len h
    unfold wordsV at hl
    rw [if_neg (by omega), List.length_map] at hl
    unfold valOk at h2 ⊢
    simp only [Bool.and_eq_true] at h2
    have ht : tyOk 1 v.ds = true := by
      have := h2.1
      rw [hk] at this
      exact this
    have hq : (v.bits.map fun b => fq b.f).any (fun q => !okq q) = false := by
      rw [List.any_eq_false]
      intro q hq
      obtain ⟨b, hm, rfl⟩ := List.mem_map.1 hq
      rw [okq_fault (hbf b hm)]
      decide
    show (tyOk 1 v.ds && (if (1 : Int) = 1 then (((v.bits.map fun b => fq b.f).length : Int) == prodI v.ds) && ((([] : List Bq).length : Int) == 0) && !((v.bits.map fun b => fq b.f).any fun q => !okq q) else _)) = true
    rw [ht, hq, if_pos rfl, List.length_map, hl]
    simp
  have hg : Good (numsOf v) := fun q hq => by
    obtain ⟨b, hm, rfl⟩ := List.mem_map.1 hq
    exact fq_ds b.f
  have hk1 : kindW (wordsV v) = 1 := by
    rw [← hw]
    have : allF (numsOf v) = false := by unfold allF numsOf; simp
    exact kind_not hv this
  unfold readF
  rw [if_neg (by omega), take_show h]
  simp only [if_true]
  have := readW_words hv hg
  rw [hw] at this
  rw [hk1, show readW 1 (wordsV v) = some ((numsOf v).nums, (numsOf v).bits) from this]
  rfl
theorem read_long_show {s : List UInt8} (h : 20000 < s.length) : readF s = (zeroV, 3) := by
  unfold readF
  rw [if_pos h]
end Go.Proofs.YtcbaipnphepbeaaGreatDoor
