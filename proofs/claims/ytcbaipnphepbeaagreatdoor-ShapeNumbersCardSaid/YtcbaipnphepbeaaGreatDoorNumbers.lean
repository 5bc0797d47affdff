/- Numbers of Back are the numbers; plain. The law ShapeNumbers: it returns true. ShapeNumbers: of every input the call returns true, and each argument reads behind it as it read before. ShapeNumbers: the tied card holds: Numbers of Back are the numbers, and Back of Numbers are the values, if all are of Kind Real. Conditions: the package-level variables that the row lists start as the program's text lays them (the tie is given). -/
import Derived.Test.YtcbaipnphepbeaaGreatDoorNy
import Derived.Test.YtcbaipnphepbeaaGreatDoorN9
import Derived.Test.YtcbaipnphepbeaaGreatDoorNx
import Derived.Test.YtcbaipnphepbeaaGreatDoorNr
import Derived.Test.YtcbaipnphepbeaaGreatDoorNu
import Derived.Test.YtcbaipnphepbeaaGreatDoorCards
import Derived.Test.YtcbaipnphepbeaaGreatDoorTie
import Derived.SevenTiedAt
namespace Go.Proofs.YtcbaipnphepbeaaGreatDoor
open Go.RowKit

/-- A type that tame returns. -/
def TyT (q : Int × List Int) : Prop := (q.1 = 1 ∨ q.1 = 2) ∧ Dims q.2
theorem TyT.ok {q : Int × List Int} (h : TyT q) : tyOk q.1 q.2 = true := by
  have h3 : q.2.any badd = false := by
    rw [List.any_eq_false]
    intro d hm
    have := h.2.2 d hm
    simp [badd]
    omega
  unfold tyOk
  rw [h3, if_pos h.1]
  simp [h.2.1]
theorem TyT.err {q : Int × List Int} (h : TyT q) : errT q = 0 := by
  unfold errT sizeR
  rw [if_pos h.ok, if_neg (by rcases h.1 with e | e <;> omega)]
theorem elemF_ok {q : Int × List Int} {ns : List Rq} (h : TyT q) (hn : ∀ x ∈ ns, okq x = true) : valOk (elemF q ns) = true := by
  have hp := h.2.prod
  have hq : (elemF q ns).nums.any (fun x => !okq x) = false := by
    rw [List.any_eq_false]
    intro x hx
    have : okq x = true := by
      unfold elemF at hx
      dsimp only at hx
      split at hx
      · rcases List.mem_append.1 hx with hx | hx
        · exact hn x (List.mem_of_mem_take hx)
        · rw [(List.mem_replicate.1 hx).2]; decide
      · cases hx
    rw [this]; decide
  have hb : (elemF q ns).bits.any (fun b => !okb b.f b.on) = false := by
    rw [List.any_eq_false]
    intro x hx
    have : x = ⟨0, false⟩ := by
      unfold elemF at hx
      dsimp only at hx
      split at hx
      · cases hx
      · exact (List.mem_replicate.1 hx).2
    rw [this]; decide
  have hl := elemF_nums q ns
  have hlb : (elemF q ns).bits.length = if q.1 = 1 then 0 else (prodI q.2).toNat := by
    unfold elemF
    dsimp only
    split <;> simp
  unfold valOk
  show (tyOk q.1 q.2 && (if q.1 = 1 then (((elemF q ns).nums.length : Int) == prodI q.2) && (((elemF q ns).bits.length : Int) == 0) && !((elemF q ns).nums.any fun x => !okq x)
    else if q.1 = 2 then (((elemF q ns).bits.length : Int) == prodI q.2) && (((elemF q ns).nums.length : Int) == 0) && !((elemF q ns).bits.any fun b => !okb b.f b.on) else false)) = true
  rw [h.ok, hq, hb, hl, hlb]
  unfold nQ
  rcases h.1 with e | e
  · simp [e]; omega
  · simp [e]; omega
theorem fillV_ok : ∀ (l : List (Int × List Int)) (ns : List Rq), (∀ q ∈ l, TyT q) → (∀ x ∈ ns, okq x = true) → ∀ v ∈ fillV l ns, valOk v = true
  | [], _, _, _, _, hv => by cases hv
  | q :: l, ns, h, hn, v, hv => by
    rw [fillV] at hv
    rcases List.mem_cons.1 hv with rfl | hv
    · exact elemF_ok (h q List.mem_cons_self) hn
    · exact fillV_ok l _ (fun x hx => h x (List.mem_cons_of_mem _ hx)) (fun x hx => hn x (List.mem_of_mem_drop hx)) v hv
theorem fillV_nums : ∀ (l : List (Int × List Int)) (ns : List Rq), ns.length = manyN l → (fillV l ns).flatMap (·.nums) = ns
  | [], ns, h => by
    rw [List.eq_nil_of_length_eq_zero (l := ns) h]; rfl
  | q :: l, ns, h => by
    rw [manyN_cons] at h
    rw [fillV, List.flatMap_cons, fillV_nums l (ns.drop (nQ q)) (by rw [List.length_drop]; omega)]
    have : (elemF q ns).nums = ns.take (nQ q) := by
      unfold elemF
      dsimp only
      by_cases e : q.1 = 1
      · rw [if_pos e, Nat.sub_eq_zero_of_le (by omega)]; simp
      · rw [if_neg e]; unfold nQ; rw [if_neg e]; rfl
    rw [this, List.take_append_drop]
theorem fillV_type {l : List (Int × List Int)} {ns : List Rq} {i : Nat} {q : Int × List Int} {v : Vq} (h : l[i]? = some q) (hv : (fillV l ns)[i]? = some v) : v.k = q.1 ∧ v.ds = q.2 := by
  rw [fillV_get l ns i h] at hv
  obtain rfl := Option.some.inj hv
  exact ⟨rfl, rfl⟩
theorem back_fill {l : List (Int × List Int)} {ns : List Rq} (hl : l.length ≤ 8) (h : ∀ q ∈ l, TyT q) (hn : ∀ x ∈ ns, okq x = true) (hm : ns.length = manyN l) : backR l ns = (fillV l ns, 0) := by
  have ha : (ns.any fun q => !okq q) = false := by
    rw [List.any_eq_false]
    intro x hx
    rw [hn x hx]; decide
  rw [backR_good (by omega) (fun x hx => (h x hx).err), if_neg (by omega), ha]
  rfl
theorem nums_fill {l : List (Int × List Int)} {ns : List Rq} (hl : l.length ≤ 8) (h : ∀ q ∈ l, TyT q) (hn : ∀ x ∈ ns, okq x = true) (hm : ns.length = manyN l) : numsR (fillV l ns) = (ns, 0) := by
  have ha : ((fillV l ns).any fun v => !valOk v) = false := by
    rw [List.any_eq_false]
    intro v hv
    rw [fillV_ok l ns h hn v hv]; decide
  have hnn := fillV_nums l ns hm
  have hlen := fillV_len l ns
  unfold numsR
  rw [if_neg (by omega), ha]
  simp [hnn]
end Go.Proofs.YtcbaipnphepbeaaGreatDoor

namespace Go.Proofs.YtcbaipnphepbeaaGreatDoor
open Go.RowKit
attribute [local go_sem ↓] Go.wp_at_zero Go.wp_at_succ

/-- The types that the law made of its argument. -/
def Types1 (w : World) (s : Value) (W : World) : Prop := ∃ A n c l, s = .slice A n c ∧ l.length = n ∧ n ≤ 8 ∧ (∀ q ∈ l, TyT q) ∧ Ext w W ∧ SO w.heap.size 25 2 (TypO w.heap.size) W (.slice A n c) l
theorem dims_of2 {es : List Int} (h : (es.length : Int) ≤ 2) (hs : Small es) : Dims es := ⟨by omega, hs⟩
theorem tyt_snoc {vs : List (Int × List Int)} {q : Int × List Int} (h : ∀ x ∈ vs, TyT x) (hq : TyT q) : ∀ x ∈ vs ++ [q], TyT x := fun x hx => by
  rcases List.mem_append.1 hx with hx | hx
  · exact h x hx
  · rw [show x = q from by simpa using hx]; exact hq
theorem TypO.lt {base : Nat} {w : World} {v : Value} {l : List (Int × List Int)} (h : SO base 25 2 (TypO base) w v l) : LT w v l := h.sv.mono fun _ _ h => let ⟨s, h1, h2⟩ := h; ⟨s, h1, h2.sv.iv⟩
theorem many_nat {l : List (Int × List Int)} (h : ∀ q ∈ l, Dims q.2) : manyQ l = (manyN l : Int) := by
  have : ∀ (l : List (Int × List Int)) (a : Int), (∀ q ∈ l, Dims q.2) → l.foldl (fun a q => a + (if q.1 = 1 then prodI q.2 else 0)) a = a + (manyN l : Int) := by
    intro l
    induction l with
    | nil => intro a _; simp [manyN]
    | cons q l ih =>
      intro a h
      rw [List.foldl_cons, ih _ fun x hx => h x (List.mem_cons_of_mem _ hx), manyN_cons]
      have hp := (h q List.mem_cons_self).prod
      unfold nQ
      split <;> omega
  have := this l 0 h
  rw [Int.zero_add] at this
  exact this
theorem ratO_at {base : Nat} {w : World} {A : Option Addr} {n c : Nat} {l : List Rq} (h : SV 4 (RatO base) w (.slice A n c) l) (j : Nat) {q : Rq} (hj : l[j]? = some q) :
    ∃ b o X cx Y cy, A = some ⟨b, o, none⟩ ∧ C4 w b (o + j * 4) (.int .i64 q.f) (.bool q.neg) (.slice X q.num.length cx) (.slice Y q.den.length cy) ∧ RO base w (.agg #[.int .i64 q.f, .bool q.neg, .slice X q.num.length cx, .slice Y q.den.length cy]) q := by
  have hs := h.spot
  obtain ⟨ad, cs, rfl, h1, ⟨x, y, rfl, hx, hy⟩, h3⟩ := SV.at' (by decide) h j hj
  have h4 := cells_at (hs ad rfl) h3
  have hr : RO base w (.agg #[.int .i64 q.f, .bool q.neg, x, y]) q := ⟨x, y, rfl, hx, hy⟩
  obtain ⟨X, cx, Y, cy, e⟩ := hr.form
  simp only [Value.agg.injEq, Array.mk.injEq, List.cons.injEq, true_and, and_true] at e
  obtain ⟨rfl, rfl⟩ := e
  exact ⟨ad.block, ad.off, X, cx, Y, cy, by rw [← (addr_of (hs ad rfl) 0).1], ⟨h4 0 rfl, h4 1 rfl, h4 2 rfl, h4 3 rfl⟩, hr⟩
theorem SV.monoR {b b' : Nat} {w : World} {v : Value} {l : List Rq} (h : SV 4 (RatO b) w v l) (hb : b' ≤ b) : SV 4 (RatO b') w v l := h.mono fun _ _ h => h.mono hb
theorem okq_snoc {xs : List Rq} {q : Rq} (h : ∀ x ∈ xs, okq x = true) (hq : okq q = true) : ∀ x ∈ xs ++ [q], okq x = true := fun x hx => by
  rcases List.mem_append.1 hx with hx | hx
  · exact h x hx
  · rw [show x = q from by simpa using hx]; exact hq
theorem rats512 {w : World} {v : Value} {l : List Rq} {xs : List Rq} (h : RawL 4 RatL w v l) (hx : (l.take 512).map cutq = xs) :
    Calls Tryz.prog 48 #[v, .int .i64 512] w fun e w' => ∃ A c, e = .returned (.slice A xs.length c) ∧ SV 4 (RatO w.heap.size) w' (.slice A xs.length c) xs ∧ Ext w w' := by
  subst hx
  refine (rats_calls (most := 512) h (by decide)).mono ?_
  rintro e w' ⟨r, rfl, hr, he⟩
  obtain ⟨A, c, rfl, _⟩ := hr.sv.form
  exact ⟨A, c, rfl, hr.sv, he⟩
theorem of_to {w : World} {j : Nat} (hj : j ≤ 1000000) :
    Calls Tryz.prog 54 #[.int .i64 (j : Int), .int .i64 1] w fun e w' => ∃ q : Rq, ∃ A c B d la lb, e = .returned (.agg #[.int .i64 q.f, .bool q.neg, .slice A la c, .slice B lb d]) ∧ RO w.heap.size w' (.agg #[.int .i64 q.f, .bool q.neg, .slice A la c, .slice B lb d]) q ∧ okq q = true ∧ Ext w w' := by
  refine (rOf_calls (by omega) (by omega) (by decide) (by decide) rfl).mono ?_
  rintro e w' ⟨r, rfl, hr, he⟩
  obtain ⟨A, c, B, d, rfl⟩ := hr.form
  exact ⟨_, A, c, B, d, _, _, rfl, hr, ratio_okq _ _ _, he⟩
/-- The numbers that the law made, behind a world. -/
def Nums1 (b0 : Nat) (wl : World) (j : Nat) (s : Value) (W : World) : Prop := ∃ A c xs, s = .slice A j c ∧ xs.length = j ∧ (∀ x ∈ xs, okq x = true) ∧ Ext wl W ∧ SO wl.heap.size 83 4 (RatO b0) W (.slice A j c) xs
abbrev S24d (wr : World) (bv ov bt ot : Nat) (x0 x1 x2 x3 t0 t1 : Value) (w' : World) : Prop := Aside (Ext wr w') ∧ C4 w' bv ov x0 x1 x2 x3 ∧ w'.cell? ⟨bt, ot, none⟩ = some t0 ∧ w'.cell? ⟨bt, ot + 1, none⟩ = some t1
theorem S24d.ext {wr w1 w2 : World} {bv ov bt ot : Nat} {x0 x1 x2 x3 t0 t1 : Value} (e : Ext w1 w2) (h : S24d wr bv ov bt ot x0 x1 x2 x3 t0 t1 w1) : S24d wr bv ov bt ot x0 x1 x2 x3 t0 t1 w2 := ⟨⟨h.1.out.trans e⟩, C4.ext e h.2.1, e.cell h.2.2.1, e.cell h.2.2.2⟩
theorem bk_to {w : World} {tv nv : Value} {l : List (Int × List Int)} {ns : List Rq} {vs : List Vq} {k : Nat} (ht : LT w tv l) (hn : QV w nv ns) (hm : backR l ns = (vs, 0)) (hk : vs.length = k) :
    Calls Tryz.prog 49 #[tv, nv] w fun e w' => ∃ A c, e = .returned (.tuple #[.slice A k c, .int .i64 0]) ∧ LV w' (.slice A k c) vs ∧ Ext w w' := by
  subst hk
  refine (shBack_calls ht hn hm).mono ?_
  rintro e w' ⟨⟨A, c, rfl, hv⟩, he⟩
  exact ⟨A, c, rfl, hv, he⟩
theorem nums_to1 {w : World} {v : Value} {l : List Vq} {ns : List Rq} {k : Nat} (h : LV w v l) (hm : numsR l = (ns, 0)) (hk : ns.length = k) :
    Calls Tryz.prog 43 #[v] w fun e w' => ∃ A c, e = .returned (.tuple #[.slice A k c, .int .i64 0]) ∧ QV w' (.slice A k c) ns ∧ Ext w w' := by
  subst hk
  refine (numbers_calls h hm).mono ?_
  rintro e w' ⟨⟨r, rfl, hr⟩, he⟩
  have hv := hr.sv.mono (fun _ _ h => RatO.c h)
  obtain ⟨A, c, rfl, _⟩ := hv.form
  exact ⟨A, c, rfl, hv, he⟩
set_option maxRecDepth 10000 in
set_option maxHeartbeats 8000000 in
theorem lwNumbers_calls {w : World} {s y : Value} {lr : List (Int × List Int)} {nr : List Rq} (hg : Glob3 w) (h : RawL 2 TyR w s lr) (hy : RawL 4 RatL w y nr) :
    Calls Tryz.prog 11 #[s, y] w fun e w' => e = .returned (.bool true) ∧ Ext w w' := by
  have HG := Aside.mk hg
  obtain ⟨A0, c0, rfl, hc0, hl0⟩ := h.form
  have HL0 := Aside.mk h
  obtain ⟨n0, hn0⟩ : ∃ n, lr.length = n := ⟨_, rfl⟩
  have HN0 := Aside.mk hn0
  rw [hn0] at HL0 hc0 hl0 ⊢
  have HY := Aside.mk hy
  unfold maxLen at hl0
  clear h hn0 hy hg
  go_enter Tryz.func11, Tryz.ntmps11
  go_upto_block 0 with fail
  go_cut [5, 6, 7] from 20 to 44 (fun s5 s6 s7 wx => (∃ b, s6 = .bool b) ∧ (∃ i, s7 = .int .i64 i) ∧ Aside (Types1 w s5 wx))
  case first =>
    go_wp2
    go_loopw [5, 6, 7] (fun o r i wr => ∃ (j : Nat) (NA : Option Addr) (nc : Nat) (rb : Bool), j ≤ n0 ∧ j ≤ 8 ∧ i = .int .i64 (j : Int) ∧ o = .slice NA j nc ∧ r = .bool rb ∧ Aside (Ext w wr) ∧
      Aside (∃ vs, (∀ q ∈ vs, TyT q) ∧ vs.length = j ∧ SO w.heap.size 25 2 (TypO w.heap.size) wr (.slice NA j nc) vs)) (fun _ _ i _ => n0 - (intOf i).toNat)
    case atStart => exact ⟨0, none, 0, true, by omega, by omega, rfl, rfl, rfl, ⟨Ext.refl w⟩, ⟨[], (fun _ h => by cases h), rfl, SO.nil⟩⟩
    case round =>
      obtain ⟨j, NA, nc, rb, hj, hj8, rfl, rfl, rfl, HE, HS⟩ := hrel
      obtain ⟨vs, hvs, hvn, hout⟩ := HS.out
      have HVS := Aside.mk hvs
      have HVN := Aside.mk hvn
      have HOUT := Aside.mk hout
      clear HS hvs hvn hout
      by_cases hlt : j < n0 ∧ j < 8
      · obtain ⟨hlt, hlt8⟩ := hlt
        obtain ⟨q, hq⟩ : ∃ q, lr[j]? = some q := ⟨lr[j]'(by rw [HN0.out]; exact hlt), List.getElem?_eq_getElem _⟩
        obtain ⟨b1, o1, D, cd, rfl, hq0, hq1, hvl⟩ := (HL0.out.ext TyR.ext HE.out).att j hq
        have HVL := Aside.mk hvl
        have HLBN : ∀ p : Int × List Int, Aside (vs.length + [p].length ≤ 1073741824) := fun p => ⟨by have := HVN.out; simp; omega⟩
        have HLN2 : ∀ p : Int × List Int, Aside ((vs ++ [p]).length = j + 1) := fun p => ⟨by simp [HVN.out]⟩
        have HLBN := Aside.mk HLBN
        have HLN2 := Aside.mk HLN2
        generalize q.2.length = lq1 at *
        have hp0 : (0 : Int) ≤ (j : Int) := Int.natCast_nonneg _
        have hp1 : (j : Int) < (n0 : Int) := by omega
        have hp2 : (j : Int) < (8 : Int) := by omega
        clear hq hvl
        cases rb <;>
        · go_wp2_with (first | (go_at_call 24; (with_reducible refine (tame_calls (m := 2) HVL.out (by decide) (by decide)).mono ?_); rintro e w3 ⟨⟨k, es, D5, c5, rfl, hk, hl, hs, hro⟩, he⟩; obtain ⟨n5, hn5⟩ : ∃ n, es.length = n := ⟨_, rfl⟩; rw [hn5] at hro ⊢; have HK := Aside.mk hk; have HDS := Aside.mk (dims_of2 hl hs); have E3 := Aside.mk ((he.alloc (.cells #[.int .i64 k, .slice D5 n5 c5] 25)).alloc (.cells #[.int .i64 k, .slice D5 n5 c5] 25)); have hb8 := B2.new (w := w3) rfl (.int .i64 k) (.slice D5 n5 c5) 25; have HS3 := Aside.mk (Nat.le_trans HE.out.size E3.out.size); have HONE := Aside.mk (one_typ (base := w.heap.size) (w := w3.alloc (.cells #[.int .i64 k, .slice D5 n5 c5] 25)) (g := w3.heap.size + 1) (q := (k, es)) (by simp) rfl (hro.ext IntC.ext ((Ext.refl w3).alloc (.cells #[.int .i64 k, .slice D5 n5 c5] 25))) HE.out.size); have HOUT3 := Aside.mk (HOUT.out.ext (TypO.ext _) E3.out); clear hk hl hs hro he hn5) | (at_builtin; refine append_so (R := TypO w.heap.size) w.heap.size elemTyp rfl _ _ rfl _ _ vs [(k, es)] HOUT3.out HONE.out TypO.one (fun _ hg => TypO.grown HOUT3.out hg) rfl rfl HS3.out (HLBN.out _).out ?_; intro v1 w6 ho hg; obtain ⟨A5, c5, rfl, _⟩ := ho.sv.form; rw [(HLN2.out _).out] at ho ⊢; have HE6 := Aside.mk (SO.ext_grown HOUT3.out (HE.out.trans E3.out) (Nat.le_refl _) hg); have HOUT6 := Aside.mk ho; clear ho hg))
          go_roundw
          case rel => exact ⟨j + 1, A5, c5, _, by omega, by omega, by go_num, rfl, rfl, HE6, ⟨_, tyt_snoc HVS.out ⟨HK.out, HDS.out⟩, (HLN2.out _).out, HOUT6.out⟩⟩
          case measure => simp [intOf]; omega
      · have HFIN : Aside (Types1 w (.slice NA j nc) wr) := ⟨⟨NA, j, nc, vs, rfl, HVN.out, hj8, HVS.out, HE.out, HOUT.out⟩⟩
        by_cases h1 : (j : Int) < (n0 : Int)
        · have h2 : ¬ (j : Int) < (8 : Int) := by omega
          go_wp2_with fail
          go_meet
          exact ⟨⟨_, rfl⟩, ⟨_, rfl⟩, HFIN⟩
        · go_wp2_with fail
          go_meet
          exact ⟨⟨_, rfl⟩, ⟨_, rfl⟩, HFIN⟩
  case rest =>
    obtain ⟨⟨rb, rfl⟩, ⟨i7, rfl⟩, ht1⟩ := hcut
    obtain ⟨TA, tn, tc, l, rfl, hln, hl8, hty, hew, hto⟩ := ht1.out
    have HLN := Aside.mk hln
    have HTY := Aside.mk hty
    have HEW := Aside.mk hew
    have HTO := Aside.mk hto
    obtain ⟨m, hm⟩ : ∃ m, manyN l = m := ⟨_, rfl⟩
    have HM := Aside.mk hm
    obtain ⟨gs, hgs⟩ : ∃ g, (nr.take 512).map cutq = g := ⟨_, rfl⟩
    have HNS := Aside.mk hgs
    obtain ⟨gn, hgn⟩ : ∃ n, gs.length = n := ⟨_, rfl⟩
    have HNN := Aside.mk hgn
    have HL8 : Aside (l.length ≤ 8) := ⟨by omega⟩
    have HL66 : Aside (l.length ≤ 66) := ⟨by omega⟩
    have HDA : Aside (∀ q ∈ l, Dims q.2) := ⟨fun q hq => (hty q hq).2⟩
    have HMQ : Aside (manyQ l = (m : Int)) := ⟨by rw [many_nat HDA.out, hm]⟩
    have hml : m ≤ 4096 := by
      have h1 := (manyQ_le HDA.out l.length).2
      rw [List.take_length, HMQ.out] at h1
      omega
    clear ht1 hln hty hew hto hm hgs hgn
    go_upto_block 2 with (first | (go_at_call 48; (with_reducible refine (rats512 (HY.out.ext RatL.ext HEW.out) HNS.out).mono ?_); rw [HNN.out]; rintro e wl ⟨XA, xc, rfl, hr, he⟩; have HGV := Aside.mk (SV.monoR hr HEW.out.size); have EL := Aside.mk (HEW.out.trans he); have HTL := Aside.mk (TypO.lt (HTO.out.ext (TypO.ext _) he)); clear hr he))
    go_cut [10] from 47 to 73 (fun s10 wx => Aside (Nums1 w.heap.size wl m s10 wx))
    case first =>
      go_wp2_with fail
      go_loopw [10, 11] (fun o i wr => ∃ j : Nat, j ≤ m ∧ i = .int .i64 (j : Int) ∧ Aside (Nums1 w.heap.size wl j o wr)) (fun _ i _ => m - (intOf i).toNat)
      case atStart => exact ⟨0, by omega, rfl, ⟨none, 0, [], rfl, rfl, (fun _ h => by cases h), Ext.refl _, SO.nil⟩⟩
      case round =>
        obtain ⟨j, hj, rfl, hn1⟩ := hrel
        obtain ⟨NA, nc, xs, rfl, hxn, hxo, hxe, hxr⟩ := hn1.out
        have HXN := Aside.mk hxn
        have HXO := Aside.mk hxo
        have HE := Aside.mk hxe
        have HROW := Aside.mk hxr
        clear hn1 hxn hxo hxe hxr
        by_cases hlt : j < m
        · have HJM : Aside (j ≤ 1000000) := ⟨by omega⟩
          have HLBN : ∀ p : Rq, Aside (xs.length + [p].length ≤ 1073741824) := fun p => ⟨by have := HXN.out; simp; omega⟩
          have HLN2 : ∀ p : Rq, Aside ((xs ++ [p]).length = j + 1) := fun p => ⟨by simp [HXN.out]⟩
          have HLBN := Aside.mk HLBN
          have HLN2 := Aside.mk HLN2
          have hp0 : (0 : Int) ≤ (j : Int) := Int.natCast_nonneg _
          have hp1 : (j : Int) < (m : Int) := by omega
          by_cases hgn : j < gn
          · have hp2 : (j : Int) < (gn : Int) := by omega
            obtain ⟨x, hx⟩ : ∃ x, gs[j]? = some x := ⟨gs[j]'(by rw [HNN.out]; exact hgn), List.getElem?_eq_getElem _⟩
            obtain ⟨bx, ox, GX, cx, GY, cy, hA, hcx, hrx⟩ := ratO_at HGV.out j hx
            subst hA
            obtain ⟨lx, hlx⟩ : ∃ n, x.num.length = n := ⟨_, rfl⟩
            obtain ⟨ly, hly⟩ : ∃ n, x.den.length = n := ⟨_, rfl⟩
            rw [hlx, hly] at hcx hrx
            have HX := Aside.mk hrx
            obtain ⟨ok, hok⟩ : ∃ b, okq x = b := ⟨_, rfl⟩
            have HOX := Aside.mk hok
            clear hx hrx hok hlx hly
            cases ok
            · go_wp2_with (first | (go_at_call 50; (with_reducible refine (rMany_calls (HTL.out.ext TypC.ext HE.out) HL66.out HDA.out HMQ.out).mono ?_); rintro e w4 ⟨rfl, he⟩; have HE4 := Aside.mk (HE.out.trans he); have HR4 := Aside.mk (HROW.out.ext (RatO.ext _) he); clear he) | (go_at_call 54; (with_reducible refine (of_to HJM.out).mono ?_); rintro e w5 ⟨q, A1, c1, B1, d1, la, lb, rfl, hr, hok, he⟩; have HOQ := Aside.mk hok; have HW5 := Aside.mk (HE4.out.trans he); have HR5 := Aside.mk (HR4.out.ext (RatO.ext _) he); have HQ5 := Aside.mk (hr.mono (Nat.le_trans EL.out.size HE4.out.size)); have hb5 := B4.new (w := w5) rfl (.int .i64 q.f) (.bool q.neg) (.slice A1 la c1) (.slice B1 lb d1) 83; (try have hc5 := C4.ext (HW5.out.trans ((Ext.refl w5).alloc (.cells #[.int .i64 q.f, .bool q.neg, .slice A1 la c1, .slice B1 lb d1] 83))) hcx); have HEF := Aside.mk (((Ext.refl w5).alloc (.cells #[.int .i64 q.f, .bool q.neg, .slice A1 la c1, .slice B1 lb d1] 83)).alloc (.cells #[.int .i64 q.f, .bool q.neg, .slice A1 la c1, .slice B1 lb d1] 83)); have HONF := Aside.mk (one_rat2 (base := w.heap.size) (w := w5.alloc (.cells #[.int .i64 q.f, .bool q.neg, .slice A1 la c1, .slice B1 lb d1] 83)) (g := w5.heap.size + 1) (by simp) (HQ5.out.ext ((Ext.refl w5).alloc (.cells #[.int .i64 q.f, .bool q.neg, .slice A1 la c1, .slice B1 lb d1] 83))) (Nat.le_refl _)); clear hr hok he) | (go_at_call 51; (with_reducible refine (risrat_calls (HX.out.rr.ext (HW5.out.trans ((Ext.refl w5).alloc (.cells #[.int .i64 q.f, .bool q.neg, .slice A1 la c1, .slice B1 lb d1] 83)))) HOX.out).mono ?_); rintro e w6 ⟨rfl, he⟩; have hb6 := hb5.ext he; have HE6 := Aside.mk (HW5.out.trans (((Ext.refl w5).alloc (.cells #[.int .i64 q.f, .bool q.neg, .slice A1 la c1, .slice B1 lb d1] 83)).trans he)); have HEF := Aside.mk (((((Ext.refl w5).alloc (.cells #[.int .i64 q.f, .bool q.neg, .slice A1 la c1, .slice B1 lb d1] 83)).trans he)).alloc (.cells #[.int .i64 q.f, .bool q.neg, .slice A1 la c1, .slice B1 lb d1] 83)); have HONF := Aside.mk (one_rat2 (base := w.heap.size) (w := w6) (g := w6.heap.size) rfl (HQ5.out.ext (((Ext.refl w5).alloc (.cells #[.int .i64 q.f, .bool q.neg, .slice A1 la c1, .slice B1 lb d1] 83)).trans he)) (Nat.le_refl _)); clear he hb5) | (at_builtin; refine append_so (R := RatO w.heap.size) wl.heap.size elemRat rfl _ _ rfl _ _ xs [q] (HR5.out.ext (RatO.ext _) HEF.out) HONF.out RatO.one (fun _ hg => RatO.grown (HR5.out.ext (RatO.ext _) HEF.out) (by decide) hg) rfl rfl (HW5.out.trans HEF.out).size (HLBN.out _).out ?_; intro v1 w9 ho hg; obtain ⟨A9, c9, rfl, _⟩ := ho.sv.form; rw [(HLN2.out _).out] at ho ⊢; have HE9 := Aside.mk (SO.ext_grown (HR5.out.ext (RatO.ext _) HEF.out) (HW5.out.trans HEF.out) (Nat.le_refl _) hg); have HR9 := Aside.mk ho; clear ho hg))
              go_roundw
              case rel => exact ⟨j + 1, by omega, by go_num, ⟨A9, c9, xs ++ [q], rfl, (HLN2.out _).out, okq_snoc HXO.out HOQ.out, HE9.out, HR9.out⟩⟩
              case measure => simp [intOf]; omega
            · go_wp2_with (first | (go_at_call 50; (with_reducible refine (rMany_calls (HTL.out.ext TypC.ext HE.out) HL66.out HDA.out HMQ.out).mono ?_); rintro e w4 ⟨rfl, he⟩; have HE4 := Aside.mk (HE.out.trans he); have HR4 := Aside.mk (HROW.out.ext (RatO.ext _) he); clear he) | (go_at_call 54; (with_reducible refine (of_to HJM.out).mono ?_); rintro e w5 ⟨q, A1, c1, B1, d1, la, lb, rfl, hr, hok, he⟩; have HOQ := Aside.mk hok; have HW5 := Aside.mk (HE4.out.trans he); have HR5 := Aside.mk (HR4.out.ext (RatO.ext _) he); have HQ5 := Aside.mk (hr.mono (Nat.le_trans EL.out.size HE4.out.size)); have hb5 := B4.new (w := w5) rfl (.int .i64 q.f) (.bool q.neg) (.slice A1 la c1) (.slice B1 lb d1) 83; (try have hc5 := C4.ext (HW5.out.trans ((Ext.refl w5).alloc (.cells #[.int .i64 q.f, .bool q.neg, .slice A1 la c1, .slice B1 lb d1] 83))) hcx); have HEF := Aside.mk (((Ext.refl w5).alloc (.cells #[.int .i64 q.f, .bool q.neg, .slice A1 la c1, .slice B1 lb d1] 83)).alloc (.cells #[.int .i64 q.f, .bool q.neg, .slice A1 la c1, .slice B1 lb d1] 83)); have HONF := Aside.mk (one_rat2 (base := w.heap.size) (w := w5.alloc (.cells #[.int .i64 q.f, .bool q.neg, .slice A1 la c1, .slice B1 lb d1] 83)) (g := w5.heap.size + 1) (by simp) (HQ5.out.ext ((Ext.refl w5).alloc (.cells #[.int .i64 q.f, .bool q.neg, .slice A1 la c1, .slice B1 lb d1] 83))) (Nat.le_refl _)); clear hr hok he) | (go_at_call 51; (with_reducible refine (risrat_calls (HX.out.rr.ext (HW5.out.trans ((Ext.refl w5).alloc (.cells #[.int .i64 q.f, .bool q.neg, .slice A1 la c1, .slice B1 lb d1] 83)))) HOX.out).mono ?_); rintro e w6 ⟨rfl, he⟩; have hb6 := hb5.ext he; have E56 := Aside.mk (((Ext.refl w5).alloc (.cells #[.int .i64 q.f, .bool q.neg, .slice A1 la c1, .slice B1 lb d1] 83)).trans he); have HC6 := C4.ext (HW5.out.trans E56.out) hcx; have E516 := Aside.mk (ext_set4 E56.out (Nat.le_refl w5.heap.size) (.int .i64 x.f) (.bool x.neg) (.slice GX lx cx) (.slice GY ly cy)); have hb16 := (((hb6.put 0 (.int .i64 x.f)).put 1 (.bool x.neg)).put 2 (.slice GX lx cx)).put 3 (.slice GY ly cy); have HEF := Aside.mk (E516.out.alloc (.cells #[.int .i64 x.f, .bool x.neg, .slice GX lx cx, .slice GY ly cy] 83)); have HONF := Aside.mk (one_rat2 (base := w.heap.size) (w := ((((w6.setCell ⟨w5.heap.size, 0, none⟩ (.int .i64 x.f)).setCell ⟨w5.heap.size, 1, none⟩ (.bool x.neg)).setCell ⟨w5.heap.size, 2, none⟩ (.slice GX lx cx)).setCell ⟨w5.heap.size, 3, none⟩ (.slice GY ly cy))) (g := w6.heap.size) (by simp) (HX.out.ext (HW5.out.trans E516.out)) (Nat.le_refl _)); clear he hb5) | (at_builtin; refine append_so (R := RatO w.heap.size) wl.heap.size elemRat rfl _ _ rfl _ _ xs [x] (HR5.out.ext (RatO.ext _) HEF.out) HONF.out RatO.one (fun _ hg => RatO.grown (HR5.out.ext (RatO.ext _) HEF.out) (by decide) hg) rfl rfl (HW5.out.trans HEF.out).size (HLBN.out _).out ?_; intro v1 w9 ho hg; obtain ⟨A9, c9, rfl, _⟩ := ho.sv.form; rw [(HLN2.out _).out] at ho ⊢; have HE9 := Aside.mk (SO.ext_grown (HR5.out.ext (RatO.ext _) HEF.out) (HW5.out.trans HEF.out) (Nat.le_refl _) hg); have HR9 := Aside.mk ho; clear ho hg))
              go_roundw
              case rel => exact ⟨j + 1, by omega, by go_num, ⟨A9, c9, xs ++ [x], rfl, (HLN2.out _).out, okq_snoc HXO.out HOX.out, HE9.out, HR9.out⟩⟩
              case measure => simp [intOf]; omega
          · have hp2 : ¬ (j : Int) < (gn : Int) := by omega
            go_wp2_with (first | (go_at_call 50; (with_reducible refine (rMany_calls (HTL.out.ext TypC.ext HE.out) HL66.out HDA.out HMQ.out).mono ?_); rintro e w4 ⟨rfl, he⟩; have HE4 := Aside.mk (HE.out.trans he); have HR4 := Aside.mk (HROW.out.ext (RatO.ext _) he); clear he) | (go_at_call 54; (with_reducible refine (of_to HJM.out).mono ?_); rintro e w5 ⟨q, A1, c1, B1, d1, la, lb, rfl, hr, hok, he⟩; have HOQ := Aside.mk hok; have HW5 := Aside.mk (HE4.out.trans he); have HR5 := Aside.mk (HR4.out.ext (RatO.ext _) he); have HQ5 := Aside.mk (hr.mono (Nat.le_trans EL.out.size HE4.out.size)); have hb5 := B4.new (w := w5) rfl (.int .i64 q.f) (.bool q.neg) (.slice A1 la c1) (.slice B1 lb d1) 83; (try have hc5 := C4.ext (HW5.out.trans ((Ext.refl w5).alloc (.cells #[.int .i64 q.f, .bool q.neg, .slice A1 la c1, .slice B1 lb d1] 83))) hcx); have HEF := Aside.mk (((Ext.refl w5).alloc (.cells #[.int .i64 q.f, .bool q.neg, .slice A1 la c1, .slice B1 lb d1] 83)).alloc (.cells #[.int .i64 q.f, .bool q.neg, .slice A1 la c1, .slice B1 lb d1] 83)); have HONF := Aside.mk (one_rat2 (base := w.heap.size) (w := w5.alloc (.cells #[.int .i64 q.f, .bool q.neg, .slice A1 la c1, .slice B1 lb d1] 83)) (g := w5.heap.size + 1) (by simp) (HQ5.out.ext ((Ext.refl w5).alloc (.cells #[.int .i64 q.f, .bool q.neg, .slice A1 la c1, .slice B1 lb d1] 83))) (Nat.le_refl _)); clear hr hok he) | (at_builtin; refine append_so (R := RatO w.heap.size) wl.heap.size elemRat rfl _ _ rfl _ _ xs [q] (HR5.out.ext (RatO.ext _) HEF.out) HONF.out RatO.one (fun _ hg => RatO.grown (HR5.out.ext (RatO.ext _) HEF.out) (by decide) hg) rfl rfl (HW5.out.trans HEF.out).size (HLBN.out _).out ?_; intro v1 w9 ho hg; obtain ⟨A9, c9, rfl, _⟩ := ho.sv.form; rw [(HLN2.out _).out] at ho ⊢; have HE9 := Aside.mk (SO.ext_grown (HR5.out.ext (RatO.ext _) HEF.out) (HW5.out.trans HEF.out) (Nat.le_refl _) hg); have HR9 := Aside.mk ho; clear ho hg))
            go_roundw
            case rel => exact ⟨j + 1, by omega, by go_num, ⟨A9, c9, xs ++ [q], rfl, (HLN2.out _).out, okq_snoc HXO.out HOQ.out, HE9.out, HR9.out⟩⟩
            case measure => simp [intOf]; omega
        · obtain rfl : m = j := by omega
          have hp1 : ¬ (m : Int) < (m : Int) := by omega
          have HFIN : Aside (Nums1 w.heap.size wl m (.slice NA m nc) wr) := ⟨⟨NA, nc, xs, rfl, HXN.out, HXO.out, HE.out, HROW.out⟩⟩
          go_wp2_with (first | (go_at_call 50; (with_reducible refine (rMany_calls (HTL.out.ext TypC.ext HE.out) HL66.out HDA.out HMQ.out).mono ?_); rintro e w4 ⟨rfl, he⟩; have HE4 := Aside.mk (HE.out.trans he); have HR4 := Aside.mk (HROW.out.ext (RatO.ext _) he); clear he))
          go_meet
          exact ⟨NA, nc, xs, rfl, HXN.out, HXO.out, HE4.out, HR4.out⟩
    case rest =>
      obtain ⟨NA, nc, xs, rfl, hxn, hxo, hxe, hxr⟩ := hcut.out
      have HXN := Aside.mk hxn
      have HBK : Aside (backR l xs = (fillV l xs, 0)) := ⟨back_fill HL8.out HTY.out hxo (by rw [hxn, HM.out])⟩
      have HNM : Aside (numsR (fillV l xs) = (xs, 0)) := ⟨nums_fill HL8.out HTY.out hxo (by rw [hxn, HM.out])⟩
      have HOK : Aside (∀ v ∈ fillV l xs, valOk v = true) := ⟨fillV_ok l xs HTY.out hxo⟩
      have HVN : Aside ((fillV l xs).length = tn) := ⟨by rw [fillV_len, HLN.out]⟩
      have HX2 : Aside (QV wc (.slice NA m nc) xs) := ⟨hxr.sv.mono fun _ _ h => RatO.c h⟩
      have HT2 := Aside.mk (HTL.out.ext TypC.ext hxe)
      have E2 := Aside.mk (EL.out.trans hxe)
      clear hcut hxn hxo hxe hxr
      go_upto_block 4 with (first | (go_at_call 49; (with_reducible refine (bk_to HT2.out HX2.out HBK.out HVN.out).mono ?_); rintro e w20 ⟨VA, vc, rfl, hr, he⟩; have HV20 := Aside.mk hr; have E20 := Aside.mk (E2.out.trans he); have HX20 := Aside.mk (HX2.out.ext RatC.ext he); have HT20 := Aside.mk (HT2.out.ext TypC.ext he); clear hr he))
      go_wp2_with fail
      go_loopw [15] (fun i wr => ∃ j : Nat, j ≤ tn ∧ i = .int .i64 (j : Int) ∧ Aside (Ext w20 wr)) (fun i _ => tn - (intOf i).toNat)
      case atStart => exact ⟨0, by omega, rfl, ⟨Ext.refl _⟩⟩
      case round =>
        obtain ⟨j, hj, rfl, HE⟩ := hrel
        by_cases hlt : j < tn
        · obtain ⟨q, hq⟩ : ∃ q, l[j]? = some q := ⟨l[j]'(by rw [HLN.out]; exact hlt), List.getElem?_eq_getElem _⟩
          obtain ⟨vq, hvq⟩ : ∃ v, (fillV l xs)[j]? = some v := ⟨(fillV l xs)[j]'(by rw [HVN.out]; exact hlt), List.getElem?_eq_getElem _⟩
          obtain ⟨hvk, hvd⟩ := fillV_type hq hvq
          obtain ⟨bt, ot, DT, dt, hA, ht0, ht1, htt⟩ := LT.at' (HT20.out.ext TypC.ext HE.out) j hq
          subst hA
          obtain ⟨bv, ov, dx, yx, zx, hB, hv0, hv1, hv2, hv3, hvv⟩ := LV.at' (HV20.out.ext ValC.ext HE.out) j hvq
          subst hB
          have hvv2 := hvv
          obtain ⟨DV, dv, AV, av, BV', bv', ev⟩ := hvv.form
          simp only [Value.agg.injEq, Array.mk.injEq, List.cons.injEq, true_and, and_true] at ev
          obtain ⟨rfl, rfl, rfl⟩ := ev
          obtain ⟨d', n', b', ed, hi, -, -⟩ := hvv2
          simp only [Value.agg.injEq, Array.mk.injEq, List.cons.injEq, true_and, and_true] at ed
          obtain ⟨rfl, rfl, rfl⟩ := ed
          have HVQ := Aside.mk (hvv.ext ((Ext.refl wr).drew))
          have HOQ : Aside (valOk vq = true) := ⟨HOK.out vq (List.mem_of_getElem? hvq)⟩
          have HTV := Aside.mk (TV.mk (k := vq.k) hi)
          have HTT := Aside.mk htt
          have HSM : Aside (tySame vq.k vq.ds q.1 q.2 = true) := ⟨by rw [hvk, hvd]; unfold tySame; simp⟩
          generalize vq.ds.length = v1 at *
          generalize vq.nums.length = v2 at *
          generalize vq.bits.length = v3 at *
          generalize q.2.length = lt at *
          have hs : S24d wr bv (ov + j * 4) bt (ot + j * 2) (.int .i64 vq.k) (.slice DV v1 dv) (.slice AV v2 av) (.slice BV' v3 bv') (.int .i64 q.1) (.slice DT lt dt) wr.drew := S24d.ext ((Ext.refl _).drew) ⟨⟨Ext.refl _⟩, ⟨hv0, hv1, hv2, hv3⟩, ht0, ht1⟩
          have hp0 : (0 : Int) ≤ (j : Int) := Int.natCast_nonneg _
          have hp1 : (j : Int) < (tn : Int) := by omega
          clear hq hvq hvk hvd ht0 ht1 htt hv0 hv1 hv2 hv3 hvv hi
          go_wp2_with fail
          go_region_held3 (fun w' => S24d wr bv (ov + j * 4) bt (ot + j * 2) (.int .i64 vq.k) (.slice DV v1 dv) (.slice AV v2 av) (.slice BV' v3 bv') (.int .i64 q.1) (.slice DT lt dt) w') (first | assumption | exact S24d.ext (by assumption) (by assumption)) (first | (go_at_call 15; (with_reducible refine (isValue_calls HVQ.out HOQ.out).mono ?_); rintro e w24 ⟨rfl, f24⟩; have F24 := Aside.mk ((Ext.refl wr).drew.trans f24)) | (go_at_call 33; (with_reducible refine (shSame_calls (HTV.out.ext F24.out) (HTT.out.ext F24.out) HSM.out).mono ?_); rintro e w25 ⟨rfl, f25⟩; have F25 := Aside.mk (HE.out.trans (F24.out.trans f25))))
          all_goals
            go_wp2_with fail
            go_roundw
            case rel => exact ⟨j + 1, by omega, by go_num, F25⟩
            case measure => simp [intOf]; omega
        · have hp1 : ¬ (j : Int) < (tn : Int) := by omega
          cases rb
          · go_wp2_with (first | (go_at_call 43; (with_reducible refine (nums_to1 (HV20.out.ext ValC.ext HE.out) HNM.out HXN.out).mono ?_); rintro e w26 ⟨YA, yc, rfl, hr, he⟩; have HY26 := Aside.mk hr; have E26 := Aside.mk (HE.out.trans he); clear hr he) | (go_at_call 44; (with_reducible refine (lnumbers_same (HX20.out.ext RatC.ext E26.out) HY26.out).mono ?_); rintro e w27 ⟨rfl, he⟩; have E27 := Aside.mk (E26.out.trans he); have HY27 := Aside.mk (HY26.out.ext RatC.ext he); clear he) | (go_at_call 19; (with_reducible refine (alive3_calls (HG.out.ext (E20.out.trans E27.out))).mono ?_); rintro e w30 ⟨rfl, he⟩; have HEND := Aside.mk ((E20.out.trans E27.out).trans he); clear he))
            go_ret
            exact ⟨rfl, HEND.out⟩
          · go_wp2_with (first | (go_at_call 43; (with_reducible refine (nums_to1 (HV20.out.ext ValC.ext HE.out) HNM.out HXN.out).mono ?_); rintro e w26 ⟨YA, yc, rfl, hr, he⟩; have HY26 := Aside.mk hr; have E26 := Aside.mk (HE.out.trans he); clear hr he) | (go_at_call 44; (with_reducible refine (lnumbers_same (HX20.out.ext RatC.ext E26.out) HY26.out).mono ?_); rintro e w27 ⟨rfl, he⟩; have E27 := Aside.mk (E26.out.trans he); have HY27 := Aside.mk (HY26.out.ext RatC.ext he); clear he) | (go_at_call 49; (with_reducible refine (bk_to (HT20.out.ext TypC.ext E27.out) HY27.out HBK.out HVN.out).mono ?_); rintro e w28 ⟨WA, wc', rfl, hr, he⟩; have HV28 := Aside.mk hr; have E28 := Aside.mk (E27.out.trans he); clear hr he) | (go_at_call 52; (with_reducible refine (rEquals_same (HV20.out.ext ValC.ext E28.out) HV28.out).mono ?_); rintro e w29 ⟨rfl, he⟩; have E29 := Aside.mk (E28.out.trans he); clear he) | (go_at_call 19; (with_reducible refine (alive3_calls (HG.out.ext (E20.out.trans E29.out))).mono ?_); rintro e w30 ⟨rfl, he⟩; have HEND := Aside.mk ((E20.out.trans E29.out).trans he); clear he))
            go_ret
            exact ⟨rfl, HEND.out⟩
end Go.Proofs.YtcbaipnphepbeaaGreatDoor

namespace Go.Proofs.YtcbaipnphepbeaaGreatDoor
open Go.RowKit Go.ChangeShapes Go.WideShapes Go.ChangeAt

set_option maxRecDepth 100000 in
/-- An argument that is a list of types. -/
theorem types_of2 {H : Type} {enc : TypeId × Value → H} {W : World} {n base : Nat} {v : Value} {x : DataW H × List MemPlace} {held : Bool} (hv : Value.okWide Tryz.prog W .any base 74 v)
    (h : DataW.trod enc Tryz.prog W 0 (fun _ => true) held n 74 v.cells.toList = some x) : ∃ l, RawL 2 TyR W v l := by
  obtain ⟨s, l, e, hx⟩ := rows_of (R := TyR) (W := W) Tryz.underlying74 Tryz.cType h fun _ _ _ hl ht => typC_of hl ht
  have hs := hx
  simp only [Value.okWide, Tryz.underlying74] at hv
  have : v = s := by
    cases v <;> first | (simp [Value.cells] at e; exact e) | (simp [Cell.okWide, Cell.ok, Tryz.underlying74] at hv)
  exact ⟨l, this ▸ hs⟩
set_option maxRecDepth 100000 in
/-- An argument that is a list of Rats. -/
theorem ratl_of2 {H : Type} {enc : TypeId × Value → H} {W : World} {n base : Nat} {v : Value} {x : DataW H × List MemPlace} {held : Bool} (hv : Value.okWide Tryz.prog W .any base 26 v)
    (h : DataW.trod enc Tryz.prog W 0 (fun _ => true) held n 26 v.cells.toList = some x) : ∃ l, RawL 4 RatL W v l := by
  obtain ⟨s, l, e, hx⟩ := rats_of (W := W) h
  have hs := hx
  simp only [Value.okWide, Tryz.underlying26] at hv
  have : v = s := by
    cases v <;> first | (simp [Value.cells] at e; exact e) | (simp [Cell.okWide, Cell.ok, Tryz.underlying26] at hv)
  exact ⟨l, this ▸ hs⟩
set_option maxRecDepth 100000 in
theorem lwNumbers_lifted (os : Os) (started : os.Started) (H : Type) (enc : TypeId × Value → H) :
    ReturnsInHanded {} Tryz.checked os 11 .any (fun w args => (Rows.shapeNumbersSpec.pre enc Tryz.prog Tryz.f11 [] false w args ∧ laidMetH Tryz.prog Rows.shapeNumbersRow.laid w) ∧ sizedMet enc Tryz.prog Tryz.f11 (OpenSpec.ofChange Rows.shapeNumbersSpec) false w args)
      (Rows.shapeNumbersSpec.post enc Tryz.prog Tryz.f11 false true false false) := by
  refine returns_law (C := Tryz.checked) (X := fun w _ => laidMetH Tryz.prog Rows.shapeNumbersRow.laid w) (fun _ _ _ hh h => h.of_heap hh) Tryz.own started (by kernel_rfl) Tryz.func11
    (ChangeSpec.witness_shaped (enc := enc) (C := Tryz.checked) (os := os) (X := fun w _ => laidMetH Tryz.prog Rows.shapeNumbersRow.laid w) false (World.laidAll Tryz.prog os Rows.shapeNumbersRow.laid) #[.slice none 0 0, .slice none 0 0] 8 (World.laidAll_os _ _ _)
      (World.shaped_of_ZipB (by kernel_rfl) (by kernel_rfl)) (by kernel_rfl) (by kernel_rfl) (by kernel_rfl)
      (by rw [MakeChecks.laidMetH_plain _ _ _ (by kernel_rfl)]; exact laidMet_laidAll _ (by kernel_rfl) (by kernel_rfl))) ?_
  intro W base args ds gs before hval0 hW hL hsh
  have hval : ∀ (j : Nat) t v, Tryz.f11.params[j]? = some t → args[j]? = some v → Value.okWide Tryz.prog W .any base t v := hval0
  have hW' := hW
  obtain ⟨p, q, hA0, hV, rfl, hfz, hnd⟩ := hW
  have hA : DataW.TrodAll enc Tryz.prog W 0 (fun _ => true) true Tryz.f11.params.toList args.toList ds p := hA0
  have hA' := hA
  rw [Tryz.params11] at hA hval
  obtain ⟨v0, v1, d0, d1, p0, p1, rfl, rfl, rfl, ⟨k0, h0⟩, ⟨k1, h1⟩⟩ := trodAll_two hA
  obtain ⟨rfl, rfl⟩ := trodVars_none hV
  have hG := glob3_of (by kernel_rfl) rfl hL hsh
  obtain ⟨lr, hl⟩ := types_of2 (hval 0 74 v0 rfl rfl) h0
  obtain ⟨nr, hn⟩ := ratl_of2 (hval 1 26 v1 rfl rfl) h1
  refine (lwNumbers_calls hG hl hn).mono fun e W' ⟨he, hw⟩ => ?_
  subst he
  refine ⟨_, rfl, law_post (ts := Tryz.f11.params.toList) rfl rfl rfl ?_ ⟨rfl, rfl, rfl⟩ hW' (by simpa using hA') hw⟩
  rw [Tryz.params11]
  exact read_all (by kernel_rfl)

theorem shapeNumbers_holds : Rows.ShapeNumbersSaid :=
  OpenClaim.holds_of_wide 11 Tryz.f11 rfl rfl rfl rfl rfl rfl rfl ⟨rfl, rfl, rfl, rfl, rfl⟩ rfl rfl rfl rfl rfl (by kernel_rfl) Tryz.func11 (by kernel_rfl)
    (of_decide_eq_true (by kernel_rfl)) (by unfold Func.isWrapper; first | (rw [if_neg (by decide +kernel)]; exact ⟨rfl, rfl⟩) | (rw [if_pos (by decide +kernel)]; kernel_rfl))
    (fun os started H enc _ => lwNumbers_lifted os started H enc)
end Go.Proofs.YtcbaipnphepbeaaGreatDoor

namespace Go.Proofs.YtcbaipnphepbeaaGreatDoor
open Go

set_option maxRecDepth 100000 in
theorem shapeNumbers_card : Rows.ShapeNumbersCardSaid :=
  Claim7.holds_tied_plain_at .later [] [.data, .data, .data, .data, .data] true (true, "74a4f590cf19fe5091db46413e7db25a7b9d51dc5c5273584579c29297515e2e") false
    shapeNumbers_holds (fun _ h => by cases h) (by kernel_rfl) (fun _ h => by cases h) shapeNumbers_row_tie rfl ⟨rfl, rfl⟩ (by kernel_rfl) rfl
    (fun f fn hf hfn => by
      obtain rfl : f = 11 := Option.some.inj ((show Tryz.prog.funcNamed "fluxion/fluxionlaw03.ShapeNumbers" = some 11 by kernel_rfl).symm.trans hf) |>.symm
      obtain rfl : fn = Tryz.f11 := (Option.some.inj (Tryz.func11.symm.trans hfn)).symm
      exact ⟨by kernel_rfl, fun j t ht => by
        rw [Tryz.params11] at ht
        have hm : t ∈ Tryz.f11.params.toList := by rw [Tryz.params11]; exact Array.mem_toList_iff.2 (Array.mem_of_getElem? ht)
        have hall : (Tryz.f11.params.toList.all fun u => !Tryz.prog.wantsStandIn u) = true := by kernel_rfl
        exact (show Tryz.prog.wantsStandIn t = false by simpa using List.all_eq_true.1 hall t hm)⟩)
    (by kernel_rfl)
#print axioms shapeNumbers_card
end Go.Proofs.YtcbaipnphepbeaaGreatDoor
