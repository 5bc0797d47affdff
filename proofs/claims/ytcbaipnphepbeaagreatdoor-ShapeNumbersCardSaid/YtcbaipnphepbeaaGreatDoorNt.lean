/- Contracts of fluxionlaw03: rats. Contracts of fluxionlaw03: value. -/
import Derived.Test.YtcbaipnphepbeaaGreatDoorNr
namespace Go.Proofs.YtcbaipnphepbeaaGreatDoor
open Go.RowKit
attribute [local go_sem ↓] Go.wp_at_zero Go.wp_at_succ

/-- A Rat, its lists however long. -/
def RatL (w : World) (c : List Value) (q : Rq) : Prop := ∃ x y, c = [.int .i64 q.f, .bool q.neg, x, y] ∧ RL w x q.num ∧ RL w y q.den
theorem RatL.ext : Grows RatL := fun _ _ _ _ e h => let ⟨x, y, h1, h2, h3⟩ := h; ⟨x, y, h1, h2.ext e, h3.ext e⟩
theorem spot_cell {w : World} {ad : Addr} {v : Value} (h : w.cell? ad = some v) : ad.spot = none := by
  unfold World.cell? at h
  split at h
  · split at h
    · cases h
    · rename_i hs
      simpa using hs
  · cases h
/-- An element of a list that lies in memory. -/
theorem RawL.atk {α : Type} {k : Nat} {R : World → List Value → α → Prop} {w : World} {A : Option Addr} {n c : Nat} {l : List α} (hk : 0 < k) (h : RawL k R w (.slice A n c) l) (j : Nat) {q : α} (hj : l[j]? = some q) :
    ∃ b o cs, A = some ⟨b, o, none⟩ ∧ cs.length = k ∧ R w cs q ∧ ∀ i v, cs[i]? = some v → w.cell? ⟨b, o + j * k + i, none⟩ = some v := by
  obtain ⟨A', c', xs, e, _, _, h5, h6⟩ := h
  injection e with e1 e2 e3
  subst e1
  obtain ⟨cs, h7, hr, h9⟩ := h6.get j hj
  have hx0 : 0 < xs.length := by
    have h0 := h9 0 cs[0] (List.getElem?_eq_getElem (by omega))
    have := (List.getElem?_eq_some_iff.1 h0).1
    omega
  obtain ⟨ad, rfl, hc⟩ := h5 0 _ (List.getElem?_eq_getElem hx0)
  have hs : ad.spot = none := spot_cell (ad := ad) (by simpa [Addr.add] using hc)
  have h4 := cells_at hs (fun i v hi => h5.cell1 _ _ (h9 i v hi))
  exact ⟨ad.block, ad.off, cs, by rw [← (addr_of hs 0).1], h7, hr, fun i v hi => h4 i hi⟩
theorem RawL.at4 {w : World} {A : Option Addr} {n c : Nat} {l : List Rq} (h : RawL 4 RatL w (.slice A n c) l) (j : Nat) {q : Rq} (hj : l[j]? = some q) :
    ∃ b o x y, A = some ⟨b, o, none⟩ ∧ w.cell? ⟨b, o + j * 4, none⟩ = some (.int .i64 q.f) ∧ w.cell? ⟨b, o + j * 4 + 1, none⟩ = some (.bool q.neg) ∧ w.cell? ⟨b, o + j * 4 + 2, none⟩ = some x ∧ w.cell? ⟨b, o + j * 4 + 3, none⟩ = some y ∧ RL w x q.num ∧ RL w y q.den := by
  obtain ⟨b, o, cs, rfl, -, ⟨x, y, rfl, hx, hy⟩, h4⟩ := h.atk (by decide) j hj
  exact ⟨b, o, x, y, rfl, h4 0 _ rfl, h4 1 _ rfl, h4 2 _ rfl, h4 3 _ rfl, hx, hy⟩
/-- A Rat of at most so many digits. -/
def cutq (q : Rq) : Rq := ⟨q.f, q.neg, q.num.take 130, q.den.take 130⟩
theorem RL.sw {w : World} {A : Option Addr} {n c : Nat} {xs : List Nat} (h : RL w (.slice A n c) xs) (m : Nat) (hm : m ≤ xs.length) (hm2 : m ≤ 1073741824) : SW 1 U32C w (.slice A m c) (xs.take m) := (h.take m hm hm2).sw
set_option linter.unusedSimpArgs false in
set_option maxRecDepth 10000 in
set_option maxHeartbeats 16000000 in
theorem rats_calls {w : World} {v : Value} {l : List Rq} {most : Nat} (h : RawL 4 RatL w v l) (hm : most ≤ 4096) :
    Calls Tryz.prog 48 #[v, .int .i64 (most : Int)] w fun e w' => ∃ r, e = .returned r ∧ SO w.heap.size 83 4 (RatO w.heap.size) w' r ((l.take most).map cutq) ∧ Ext w w' := by
  obtain ⟨A, c, xs, rfl, hc, hl, _⟩ := id h
  have H := Aside.mk h
  obtain ⟨n, hn⟩ : ∃ n, l.length = n := ⟨_, rfl⟩
  have HN := Aside.mk hn
  rw [hn] at H hc hl ⊢
  unfold maxLen at hl
  clear h hn
  go_enter Tryz.func48, Tryz.ntmps48
  go_wp2_with fail
  go_loopw [5, 6] (fun o i wr => ∃ (j : Nat) (N : Option Addr) (cN : Nat), j ≤ n ∧ j ≤ most ∧ i = .int .i64 (j : Int) ∧ o = .slice N j cN ∧ Aside (Ext w wr) ∧ Aside (SO w.heap.size 83 4 (RatO w.heap.size) wr (.slice N j cN) ((l.take j).map cutq))) (fun _ i _ => n - (intOf i).toNat)
  case atStart => exact ⟨0, none, 0, by omega, by omega, rfl, rfl, ⟨Ext.refl w⟩, ⟨SO.nil⟩⟩
  case round =>
    obtain ⟨j, N, cN, hj, hjm, rfl, rfl, HE, HOUT⟩ := hrel
    by_cases hlt : j < n
    · by_cases hlm : j < most
      · obtain ⟨q, hq⟩ : ∃ q, l[j]? = some q := ⟨l[j]'(by rw [HN.out]; exact hlt), List.getElem?_eq_getElem _⟩
        obtain ⟨b0, o0, x, y, rfl, hc0, hc1, hc2, hc3, hx, hy⟩ := RawL.at4 (H.out.ext RatL.ext HE.out) j hq
        have HX := Aside.mk hx
        have HY := Aside.mk hy
        obtain ⟨X, cx, rfl, hxc, hxl, hxd, _⟩ := hx
        obtain ⟨Y, cy, rfl, hyc, hyl, hyd, _⟩ := hy
        obtain ⟨m1, hm1⟩ : ∃ m, min q.num.length 130 = m := ⟨_, rfl⟩
        obtain ⟨m2, hm2⟩ : ∃ m, min q.den.length 130 = m := ⟨_, rfl⟩
        have hmin1 : min (q.num.length : Int) 130 = (m1 : Int) := by omega
        have hmin2 : min (q.den.length : Int) 130 = (m2 : Int) := by omega
        have e1 : q.num.take 130 = q.num.take m1 := by rw [← hm1, Nat.min_comm]; exact List.take_eq_take_min
        have e2 : q.den.take 130 = q.den.take m2 := by rw [← hm2, Nat.min_comm]; exact List.take_eq_take_min
        have HSX : Aside (∀ {W : World}, Aside (Ext wr W) → SW 1 U32C W (.slice X m1 cx) (q.num.take 130)) := ⟨fun e => by rw [e1]; exact (HX.out.ext e.out).sw m1 (by omega) (by omega)⟩
        have HSY : Aside (∀ {W : World}, Aside (Ext wr W) → SW 1 U32C W (.slice Y m2 cy) (q.den.take 130)) := ⟨fun e => by rw [e2]; exact (HY.out.ext e.out).sw m2 (by omega) (by omega)⟩
        have HLX : Aside ((q.num.take 130).length = m1) := ⟨by rw [e1]; simp; omega⟩
        have HLY : Aside ((q.den.take 130).length = m2) := ⟨by rw [e2]; simp; omega⟩
        have HDX : Aside (Ds (q.num.take 130)) := ⟨fun z hz => hxd z (List.mem_of_mem_take hz)⟩
        have HDY : Aside (Ds (q.den.take 130)) := ⟨fun z hz => hyd z (List.mem_of_mem_take hz)⟩
        have HTK : Aside ((l.take (j + 1)).map cutq = (l.take j).map cutq ++ [cutq q]) := ⟨by rw [List.take_add_one, hq]; simp⟩
        have HLN : Aside (((l.take j).map cutq).length + [cutq q].length ≤ 1073741824) := ⟨by simp; omega⟩
        have HLN2 : Aside (((l.take j).map cutq ++ [cutq q]).length = j + 1) := ⟨by simp [HN.out]; omega⟩
        have i1 : (m1 : Int) ≤ (q.num.length : Int) := by omega
        have i2 : (m2 : Int) ≤ (q.den.length : Int) := by omega
        have i3 : (m1 : Int) ≤ (cx : Int) := by omega
        have i4 : (m2 : Int) ≤ (cy : Int) := by omega
        have i5 : (0 : Int) ≤ (m1 : Int) := by omega
        have i6 : (0 : Int) ≤ (m2 : Int) := by omega
        have j1 : m1 ≤ q.num.length := by omega
        have j2 : m2 ≤ q.den.length := by omega
        have j3 : m1 ≤ cx := by omega
        have j4 : m2 ≤ cy := by omega
        have HZ0 : Aside (w.heap.size ≤ wr.heap.size) := ⟨HE.out.size⟩
        have HE0 : Aside (Ext wr wr) := ⟨Ext.refl wr⟩
        unfold maxLen at hxl hyl
        have HNE : Aside (some wr.heap.size ≠ (Value.slice N j cN).ownBlock) := ⟨fun e => by
          obtain ⟨xs, ho⟩ := HOUT.out.row
          have := (ho.lt _ e.symm).2; omega⟩
        have tok1 : True := trivial
        have tok2 : True := trivial
        clear hm1 hm2 e1 e2 hxd hyd hq
        generalize q.num.length = lx at *
        generalize q.den.length = ly at *
        have hk0 := Four.ext ((Ext.refl _).drew) (KeepB.four (KeepB.init wr (.int .i64 q.f) (.bool q.neg) (.slice X lx cx) (.slice Y ly cy) 83))
        go_wp2_with fail
        refine wp_region_held_drew (S := fun w' => Four w' wr.heap.size (.int .i64 q.f) (.bool q.neg) (.slice X lx cx) (.slice Y ly cy)) (by kernel_rfl) hk0 (fun hHeld => ?_)
        refine wpAnyH_take (i := 0) (v := ?_) rfl (by kernel_rfl) (by kernel_rfl) (by kernel_rfl) (fun _ _ _ h => h) (Or.inl ⟨by rfl, ?_⟩) (by assumption) ?_
        rotate_left
        · (intro w hSw; (try dsimp only at hSw); (first | (go_simp; done) | (go_simp; with_reducible rfl)))
        try simp only [Act.put, List.setIfInBounds_toArray, List.set_cons_zero, List.set_cons_succ]
        refine wpAnyH_take (i := 1) (v := ?_) rfl (by kernel_rfl) (by kernel_rfl) (by kernel_rfl) (fun _ _ _ h => h) (Or.inl ⟨by rfl, ?_⟩) (by assumption) ?_
        rotate_left
        · (intro w hSw; (try dsimp only at hSw); (first | (go_simp; done) | (go_simp; with_reducible rfl)))
        try simp only [Act.put, List.setIfInBounds_toArray, List.set_cons_zero, List.set_cons_succ]
        refine wpAnyH_take (i := 2) (v := ?_) rfl (by kernel_rfl) (by kernel_rfl) (by kernel_rfl) (fun _ _ _ h => h) (Or.inl ⟨by rfl, ?_⟩) (by assumption) ?_
        rotate_left
        · (intro w hSw; (try dsimp only at hSw); (first | (go_simp; done) | (go_simp; with_reducible rfl)))
        try simp only [Act.put, List.setIfInBounds_toArray, List.set_cons_zero, List.set_cons_succ]
        refine wpAnyH_take (i := 3) (v := ?_) rfl (by kernel_rfl) (by kernel_rfl) (by kernel_rfl) (fun _ _ _ h => h) (Or.inl ⟨by rfl, ?_⟩) (by assumption) ?_
        rotate_left
        · (intro w hSw; (try dsimp only at hSw); (first | (go_simp; done) | (go_simp; with_reducible rfl)))
        try simp only [Act.put, List.setIfInBounds_toArray, List.set_cons_zero, List.set_cons_succ]
        refine wpAnyH_take (i := 4) (v := ?_) rfl (by kernel_rfl) (by kernel_rfl) (by kernel_rfl) (fun _ _ _ h => h) (Or.inl ⟨by rfl, ?_⟩) (by assumption) ?_
        rotate_left
        · (intro w hSw; (try dsimp only at hSw); (first | (go_simp; done) | (go_simp; with_reducible rfl)))
        try simp only [Act.put, List.setIfInBounds_toArray, List.set_cons_zero, List.set_cons_succ]
        refine wpAnyH_take (i := 6) (v := ?_) rfl (by kernel_rfl) (by kernel_rfl) (by kernel_rfl) (fun _ _ _ h => h) (Or.inl ⟨by rfl, ?_⟩) (by assumption) ?_
        rotate_left
        · (intro w hSw; (try dsimp only at hSw); (first | (go_simp; done) | (go_simp; with_reducible rfl)))
        try simp only [Act.put, List.setIfInBounds_toArray, List.set_cons_zero, List.set_cons_succ]
        refine wpAnyH_take (i := 7) (v := ?_) rfl (by kernel_rfl) (by kernel_rfl) (by kernel_rfl) (fun _ _ _ h => h) (Or.inl ⟨by rfl, ?_⟩) (by assumption) ?_
        rotate_left
        · (intro w hSw; (try dsimp only at hSw); (first | (go_simp; done) | (go_simp; with_reducible rfl)))
        try simp only [Act.put, List.setIfInBounds_toArray, List.set_cons_zero, List.set_cons_succ]
        refine wpAnyH_take (i := 8) (v := ?_) rfl (by kernel_rfl) (by kernel_rfl) (by kernel_rfl) (fun _ _ _ h => h) (Or.inl ⟨by rfl, ?_⟩) (by assumption) ?_
        rotate_left
        · (intro w hSw; (try dsimp only at hSw); (first | (go_simp; done) | (go_simp; with_reducible rfl)))
        try simp only [Act.put, List.setIfInBounds_toArray, List.set_cons_zero, List.set_cons_succ]
        refine wpAnyH_take (i := 9) (v := ?_) rfl (by kernel_rfl) (by kernel_rfl) (by kernel_rfl) (fun _ _ _ h => h) (Or.inl ⟨by rfl, ?_⟩) (by assumption) ?_
        rotate_left
        · (intro w hSw; (try dsimp only at hSw); (first | (go_simp; done) | (go_simp; with_reducible rfl)))
        try simp only [Act.put, List.setIfInBounds_toArray, List.set_cons_zero, List.set_cons_succ]
        refine wpAnyH_take (i := 10) (v := ?_) rfl (by kernel_rfl) (by kernel_rfl) (by kernel_rfl) (fun _ _ _ h => h) (Or.inl ⟨by rfl, ?_⟩) (by assumption) ?_
        rotate_left
        · (intro w hSw; (try dsimp only at hSw); (first | (go_simp; done) | (go_simp; with_reducible rfl)))
        try simp only [Act.put, List.setIfInBounds_toArray, List.set_cons_zero, List.set_cons_succ]
        refine wpAnyH_take (i := 11) (v := ?_) rfl (by kernel_rfl) (by kernel_rfl) (by kernel_rfl) (fun _ _ _ h => h) (Or.inl ⟨by rfl, ?_⟩) (by assumption) ?_
        rotate_left
        · (intro w hSw; (try dsimp only at hSw); (first | (go_simp; done) | (go_simp; with_reducible rfl)))
        try simp only [Act.put, List.setIfInBounds_toArray, List.set_cons_zero, List.set_cons_succ]
        refine wpAnyH_take (i := 12) (v := ?_) rfl (by kernel_rfl) (by kernel_rfl) (by kernel_rfl) (fun _ _ _ h => h) (Or.inl ⟨by rfl, ?_⟩) (by assumption) ?_
        rotate_left
        · (intro w hSw; (try dsimp only at hSw); (first | (go_simp; done) | (go_simp; with_reducible rfl)))
        try simp only [Act.put, List.setIfInBounds_toArray, List.set_cons_zero, List.set_cons_succ]
        refine wpAnyH_take (i := 15) (v := ?_) rfl (by kernel_rfl) (by kernel_rfl) (by kernel_rfl) (fun _ _ _ h => h) (Or.inl ⟨by rfl, ?_⟩) (by assumption) ?_
        rotate_left
        · (intro w hSw; (try dsimp only at hSw); (first | (go_simp; done) | (go_simp; with_reducible rfl)))
        try simp only [Act.put, List.setIfInBounds_toArray, List.set_cons_zero, List.set_cons_succ]
        refine wpAnyH_take (i := 16) (v := ?_) rfl (by kernel_rfl) (by kernel_rfl) (by kernel_rfl) (fun _ _ _ h => h) (Or.inl ⟨by rfl, ?_⟩) (by assumption) ?_
        rotate_left
        · (intro w hSw; (try dsimp only at hSw); (first | (go_simp; done) | (go_simp; with_reducible rfl)))
        try simp only [Act.put, List.setIfInBounds_toArray, List.set_cons_zero, List.set_cons_succ]
        refine wpAnyH_take (i := 17) (v := ?_) rfl (by kernel_rfl) (by kernel_rfl) (by kernel_rfl) (fun _ _ _ h => h) (Or.inl ⟨by rfl, ?_⟩) (by assumption) ?_
        rotate_left
        · (intro w hSw; (try dsimp only at hSw); (first | (go_simp; done) | (go_simp; with_reducible rfl)))
        try simp only [Act.put, List.setIfInBounds_toArray, List.set_cons_zero, List.set_cons_succ]
        refine wpAnyH_take (i := 18) (v := ?_) rfl (by kernel_rfl) (by kernel_rfl) (by kernel_rfl) (fun _ _ _ h => h) (Or.inl ⟨by rfl, ?_⟩) (by assumption) ?_
        rotate_left
        · (intro w hSw; (try dsimp only at hSw); (first | (go_simp; done) | (go_simp; with_reducible rfl)))
        try simp only [Act.put, List.setIfInBounds_toArray, List.set_cons_zero, List.set_cons_succ]
        refine wpAnyH_take (i := 19) (v := ?_) rfl (by kernel_rfl) (by kernel_rfl) (by kernel_rfl) (fun _ _ _ h => h) (Or.inl ⟨by rfl, ?_⟩) (by assumption) ?_
        rotate_left
        · (intro w hSw; (try dsimp only at hSw); (first | (go_simp; done) | (go_simp; with_reducible rfl)))
        try simp only [Act.put, List.setIfInBounds_toArray, List.set_cons_zero, List.set_cons_succ]
        refine wpAnyH_take (i := 20) (v := ?_) rfl (by kernel_rfl) (by kernel_rfl) (by kernel_rfl) (fun _ _ _ h => h) (Or.inl ⟨by rfl, ?_⟩) (by assumption) ?_
        rotate_left
        · (intro w hSw; (try dsimp only at hSw); (first | (go_simp; done) | (go_simp; with_reducible rfl)))
        try simp only [Act.put, List.setIfInBounds_toArray, List.set_cons_zero, List.set_cons_succ]
        refine wpAnyH_take (i := 21) (v := ?_) rfl (by kernel_rfl) (by kernel_rfl) (by kernel_rfl) (fun _ _ _ h => h) (Or.inl ⟨by rfl, ?_⟩) (by assumption) ?_
        rotate_left
        · (intro w hSw; (try dsimp only at hSw); (first | (go_simp; done) | (go_simp; with_reducible rfl)))
        try simp only [Act.put, List.setIfInBounds_toArray, List.set_cons_zero, List.set_cons_succ]
        refine wpAnyH_ready (rs := [5, 14]) (by kernel_rfl) (by simp) ?_
        refine AllReadyH.cons rfl (fun K hK => ?_) (AllReadyH.cons rfl (fun K hK => ?_) AllReadyH.nil)
        · go_simp
          refine hK.out _ _ (by (try dsimp only); (first | assumption | exact Four.ext (by assumption) (by assumption) | exact Four.ext ((Ext.refl _).alloc _) (by assumption))) (fun hHeld => ?_)
          clear hK K
          refine wpAnyH_ready (rs := [13, 14]) (by kernel_rfl) (by simp) ?_
          refine AllReadyH.cons rfl (fun K hK => ?_) (AllReadyH.cons rfl (fun K hK => ?_) AllReadyH.nil)
          · (have _t := tok1; refine step_lit (base := w.heap.size) elemU32 U32C.ext rfl (.tmp 28) (.tmp 35) rfl (.slice X m1 cx) (q.num.take 130) (by rfl) (by rfl) (lit_at (by (repeat (first | with_reducible refine lit_ext HE0 ?_ | with_reducible refine lit_drew ?_ | ((with_reducible refine lit_new ?_); simp; done) | with_reducible refine lit_old ?_))) (by have := HZ0.out; simp at this ⊢ <;> omega)) (HSX.out ⟨by (repeat (first | with_reducible exact Ext.refl _ | with_reducible refine Ext.drew ?_ | with_reducible refine Ext.alloc ?_ _))⟩) (by have := HZ0.out; simp at this ⊢ <;> omega) ?_; rintro v1 w3 h1 he1; have hk3 := Four.ext he1 (show Four _ wr.heap.size (.int .i64 q.f) (.bool q.neg) (.slice X lx cx) (.slice Y ly cy) from by assumption); have HX1 := Aside.mk (Ext.trans (show Ext wr _ by (repeat (first | with_reducible exact Ext.refl _ | with_reducible refine Ext.drew ?_ | with_reducible refine Ext.alloc ?_ _))) he1); obtain ⟨A1, c1, rfl, _⟩ := h1.sv.form; rw [HLX.out] at h1 ⊢; have HR1 := Aside.mk h1; have HE1 := Aside.mk he1; have HZ1 := Aside.mk he1.size; clear h1 he1 _t tok1)
            refine hK.out _ _ (by (try dsimp only); (first | assumption | exact Four.ext (by assumption) (by assumption) | exact Four.ext ((Ext.refl _).alloc _) (by assumption))) (fun hHeld => ?_)
            clear hK K
            refine wpAnyH_ready (rs := [14]) (by kernel_rfl) (by simp) ?_
            refine AllReadyH.cons rfl (fun K hK => ?_) AllReadyH.nil
            go_simp
            refine hK.out _ _ (by (try dsimp only); (first | assumption | exact Four.ext (by assumption) (by assumption) | exact Four.ext ((Ext.refl _).alloc _) (by assumption))) (fun hHeld => ?_)
            clear hK K
            refine wpAnyH_ready (rs := [22]) (by kernel_rfl) (by simp) ?_
            refine AllReadyH.cons rfl (fun K hK => ?_) AllReadyH.nil
            (have _t := tok2; refine step_lit (base := w.heap.size) elemU32 U32C.ext rfl (.tmp 37) (.tmp 44) rfl (.slice Y m2 cy) (q.den.take 130) (by rfl) (by rfl) (lit_at (by (repeat (first | with_reducible refine lit_ext HE1 ?_ | with_reducible refine lit_drew ?_ | ((with_reducible refine lit_new ?_); simp; done) | with_reducible refine lit_old ?_))) (by have := HZ1.out; have := HZ0.out; simp at * <;> omega)) (HSY.out ⟨HX1.out.trans (by (repeat (first | with_reducible exact Ext.refl _ | with_reducible refine Ext.drew ?_ | with_reducible refine Ext.alloc ?_ _)))⟩) (by have := HZ1.out; have := HZ0.out; simp at * <;> omega) ?_; rintro v2 w4 h2 he2; have hk4 := Four.ext he2 (show Four _ wr.heap.size (.int .i64 q.f) (.bool q.neg) (.slice X lx cx) (.slice Y ly cy) from by assumption); have HX2 := Aside.mk ((HX1.out.trans (by (repeat (first | with_reducible exact Ext.refl _ | with_reducible refine Ext.drew ?_ | with_reducible refine Ext.alloc ?_ _)))).trans he2); obtain ⟨A2, c2, rfl, _⟩ := h2.sv.form; rw [HLY.out] at h2 ⊢; have HR2 := Aside.mk h2; have HR1b := Aside.mk (HR1.out.ext U32C.ext (Ext.trans (by (repeat (first | with_reducible exact Ext.refl _ | with_reducible refine Ext.drew ?_ | with_reducible refine Ext.alloc ?_ _))) he2)); have hk5 := Four.ext ((Ext.refl w4).alloc (.cells #[.int .i64 q.f, .bool q.neg, .slice A1 m1 c1, .slice A2 m2 c2] 83)) hk4; have HX5 := Aside.mk (HX2.out.alloc (.cells #[.int .i64 q.f, .bool q.neg, .slice A1 m1 c1, .slice A2 m2 c2] 83)); have HROW := Aside.mk (HOUT.out.ext (RatO.ext _) HX5.out); have HRO : Aside (RO w.heap.size w4 (.agg #[.int .i64 q.f, .bool q.neg, .slice A1 m1 c1, .slice A2 m2 c2]) (cutq q)) := ⟨_, _, rfl, HR1b.out.ov HDX.out, HR2.out.ov HDY.out⟩; have HB5 := Aside.mk (Nat.le_trans HZ0.out HX5.out.size); have HBB := Aside.mk (World.block_lt_of_cell? _ _ hk5.1); clear h2 he2 _t tok2)
            refine hK.out _ _ (by (try dsimp only); (first | assumption | exact Four.ext (by assumption) (by assumption) | exact Four.ext ((Ext.refl _).alloc _) (by assumption))) (fun hHeld => ?_)
            clear hK K
            refine wpAnyH_take (i := 23) (v := ?_) rfl (by kernel_rfl) (by kernel_rfl) (by kernel_rfl) (fun _ _ _ h => h) (Or.inl ⟨by rfl, ?_⟩) (by assumption) ?_
            rotate_left
            · (intro w hSw; (try dsimp only at hSw); (first | (go_simp; done) | (go_simp; with_reducible rfl)))
            try simp only [Act.put, List.setIfInBounds_toArray, List.set_cons_zero, List.set_cons_succ]
            refine wpAnyH_ready (rs := [24]) (by kernel_rfl) (by simp) ?_
            refine AllReadyH.cons rfl (fun K hK => ?_) AllReadyH.nil
            go_simp
            refine hK.out _ _ (by (try dsimp only); (first | assumption | exact Four.ext (by assumption) (by assumption) | exact Four.ext ((Ext.refl _).alloc _) (by assumption))) (fun hHeld => ?_)
            clear hK K
            refine wpAnyH_ready (rs := [25]) (by kernel_rfl) (by simp) ?_
            refine AllReadyH.cons rfl (fun K hK => ?_) AllReadyH.nil
            (refine step_append_so (R := RatO w.heap.size) (W := w4.alloc (.cells #[.int .i64 q.f, .bool q.neg, .slice A1 m1 c1, .slice A2 m2 c2] 83)) w.heap.size elemRat rfl (.tmp 23) (.tmp 47) rfl (.slice N j cN) (.slice (some ⟨w4.heap.size, 0, none⟩) 1 1) ((l.take j).map cutq) [cutq q] HROW.out (one_rat2 (g := w4.heap.size) rfl HRO.out (Nat.le_refl _)) RatO.one (fun _ hg => RatO.grown HROW.out (by decide) hg) (by simp [Act.eval]) (by simp [Act.eval]) HB5.out HLN.out ?_; rintro v6 w6 ho hg; obtain ⟨A6, c6, rfl, _⟩ := ho.sv.form; rw [HLN2.out] at ho ⊢; have HO6 := Aside.mk ho; have HE6 := Aside.mk (HROW.out.ext_grown (HE.out.trans HX5.out) (Nat.le_refl _) hg); have hk6 : Four w6 wr.heap.size (.int .i64 q.f) (.bool q.neg) (.slice X lx cx) (.slice Y ly cy) := ⟨(hg.cell_far ⟨wr.heap.size, 0, none⟩ HBB.out HNE.out).trans hk5.1, (hg.cell_far ⟨wr.heap.size, 1, none⟩ HBB.out HNE.out).trans hk5.2.1, (hg.cell_far ⟨wr.heap.size, 2, none⟩ HBB.out HNE.out).trans hk5.2.2.1, (hg.cell_far ⟨wr.heap.size, 3, none⟩ HBB.out HNE.out).trans hk5.2.2.2⟩; clear ho hg)
            refine hK.out _ _ (by (try dsimp only); (first | assumption | exact Four.ext (by assumption) (by assumption) | exact Four.ext ((Ext.refl _).alloc _) (by assumption))) (fun hHeld => ?_)
            clear hK K
            refine wpAnyH_take (i := 26) (v := ?_) rfl (by kernel_rfl) (by kernel_rfl) (by kernel_rfl) (fun _ _ _ h => h) (Or.inl ⟨by rfl, ?_⟩) (by assumption) ?_
            rotate_left
            · (intro w hSw; (try dsimp only at hSw); (first | (go_simp; done) | (go_simp; with_reducible rfl)))
            try simp only [Act.put, List.setIfInBounds_toArray, List.set_cons_zero, List.set_cons_succ]
            refine wpAnyH_done (by kernel_rfl) ?_ _
            clear hk0 hk3 hk4 hk5 hk6
            go_wp2_with fail
            go_roundw
            case rel => exact ⟨j + 1, A6, c6, by omega, by omega, by go_num, rfl, HE6, ⟨by rw [HTK.out]; exact HO6.out⟩⟩
            case measure => simp [intOf]; omega
          · go_simp
            refine hK.out _ _ (by (try dsimp only); (first | assumption | exact Four.ext (by assumption) (by assumption) | exact Four.ext ((Ext.refl _).alloc _) (by assumption))) (fun hHeld => ?_)
            clear hK K
            refine wpAnyH_ready (rs := [13]) (by kernel_rfl) (by simp) ?_
            refine AllReadyH.cons rfl (fun K hK => ?_) AllReadyH.nil
            (have _t := tok1; refine step_lit (base := w.heap.size) elemU32 U32C.ext rfl (.tmp 28) (.tmp 35) rfl (.slice X m1 cx) (q.num.take 130) (by rfl) (by rfl) (lit_at (by (repeat (first | with_reducible refine lit_ext HE0 ?_ | with_reducible refine lit_drew ?_ | ((with_reducible refine lit_new ?_); simp; done) | with_reducible refine lit_old ?_))) (by have := HZ0.out; simp at this ⊢ <;> omega)) (HSX.out ⟨by (repeat (first | with_reducible exact Ext.refl _ | with_reducible refine Ext.drew ?_ | with_reducible refine Ext.alloc ?_ _))⟩) (by have := HZ0.out; simp at this ⊢ <;> omega) ?_; rintro v1 w3 h1 he1; have hk3 := Four.ext he1 (show Four _ wr.heap.size (.int .i64 q.f) (.bool q.neg) (.slice X lx cx) (.slice Y ly cy) from by assumption); have HX1 := Aside.mk (Ext.trans (show Ext wr _ by (repeat (first | with_reducible exact Ext.refl _ | with_reducible refine Ext.drew ?_ | with_reducible refine Ext.alloc ?_ _))) he1); obtain ⟨A1, c1, rfl, _⟩ := h1.sv.form; rw [HLX.out] at h1 ⊢; have HR1 := Aside.mk h1; have HE1 := Aside.mk he1; have HZ1 := Aside.mk he1.size; clear h1 he1 _t tok1)
            refine hK.out _ _ (by (try dsimp only); (first | assumption | exact Four.ext (by assumption) (by assumption) | exact Four.ext ((Ext.refl _).alloc _) (by assumption))) (fun hHeld => ?_)
            clear hK K
            refine wpAnyH_ready (rs := [22]) (by kernel_rfl) (by simp) ?_
            refine AllReadyH.cons rfl (fun K hK => ?_) AllReadyH.nil
            (have _t := tok2; refine step_lit (base := w.heap.size) elemU32 U32C.ext rfl (.tmp 37) (.tmp 44) rfl (.slice Y m2 cy) (q.den.take 130) (by rfl) (by rfl) (lit_at (by (repeat (first | with_reducible refine lit_ext HE1 ?_ | with_reducible refine lit_drew ?_ | ((with_reducible refine lit_new ?_); simp; done) | with_reducible refine lit_old ?_))) (by have := HZ1.out; have := HZ0.out; simp at * <;> omega)) (HSY.out ⟨HX1.out.trans (by (repeat (first | with_reducible exact Ext.refl _ | with_reducible refine Ext.drew ?_ | with_reducible refine Ext.alloc ?_ _)))⟩) (by have := HZ1.out; have := HZ0.out; simp at * <;> omega) ?_; rintro v2 w4 h2 he2; have hk4 := Four.ext he2 (show Four _ wr.heap.size (.int .i64 q.f) (.bool q.neg) (.slice X lx cx) (.slice Y ly cy) from by assumption); have HX2 := Aside.mk ((HX1.out.trans (by (repeat (first | with_reducible exact Ext.refl _ | with_reducible refine Ext.drew ?_ | with_reducible refine Ext.alloc ?_ _)))).trans he2); obtain ⟨A2, c2, rfl, _⟩ := h2.sv.form; rw [HLY.out] at h2 ⊢; have HR2 := Aside.mk h2; have HR1b := Aside.mk (HR1.out.ext U32C.ext (Ext.trans (by (repeat (first | with_reducible exact Ext.refl _ | with_reducible refine Ext.drew ?_ | with_reducible refine Ext.alloc ?_ _))) he2)); have hk5 := Four.ext ((Ext.refl w4).alloc (.cells #[.int .i64 q.f, .bool q.neg, .slice A1 m1 c1, .slice A2 m2 c2] 83)) hk4; have HX5 := Aside.mk (HX2.out.alloc (.cells #[.int .i64 q.f, .bool q.neg, .slice A1 m1 c1, .slice A2 m2 c2] 83)); have HROW := Aside.mk (HOUT.out.ext (RatO.ext _) HX5.out); have HRO : Aside (RO w.heap.size w4 (.agg #[.int .i64 q.f, .bool q.neg, .slice A1 m1 c1, .slice A2 m2 c2]) (cutq q)) := ⟨_, _, rfl, HR1b.out.ov HDX.out, HR2.out.ov HDY.out⟩; have HB5 := Aside.mk (Nat.le_trans HZ0.out HX5.out.size); have HBB := Aside.mk (World.block_lt_of_cell? _ _ hk5.1); clear h2 he2 _t tok2)
            refine hK.out _ _ (by (try dsimp only); (first | assumption | exact Four.ext (by assumption) (by assumption) | exact Four.ext ((Ext.refl _).alloc _) (by assumption))) (fun hHeld => ?_)
            clear hK K
            refine wpAnyH_take (i := 23) (v := ?_) rfl (by kernel_rfl) (by kernel_rfl) (by kernel_rfl) (fun _ _ _ h => h) (Or.inl ⟨by rfl, ?_⟩) (by assumption) ?_
            rotate_left
            · (intro w hSw; (try dsimp only at hSw); (first | (go_simp; done) | (go_simp; with_reducible rfl)))
            try simp only [Act.put, List.setIfInBounds_toArray, List.set_cons_zero, List.set_cons_succ]
            refine wpAnyH_ready (rs := [24]) (by kernel_rfl) (by simp) ?_
            refine AllReadyH.cons rfl (fun K hK => ?_) AllReadyH.nil
            go_simp
            refine hK.out _ _ (by (try dsimp only); (first | assumption | exact Four.ext (by assumption) (by assumption) | exact Four.ext ((Ext.refl _).alloc _) (by assumption))) (fun hHeld => ?_)
            clear hK K
            refine wpAnyH_ready (rs := [25]) (by kernel_rfl) (by simp) ?_
            refine AllReadyH.cons rfl (fun K hK => ?_) AllReadyH.nil
            (refine step_append_so (R := RatO w.heap.size) (W := w4.alloc (.cells #[.int .i64 q.f, .bool q.neg, .slice A1 m1 c1, .slice A2 m2 c2] 83)) w.heap.size elemRat rfl (.tmp 23) (.tmp 47) rfl (.slice N j cN) (.slice (some ⟨w4.heap.size, 0, none⟩) 1 1) ((l.take j).map cutq) [cutq q] HROW.out (one_rat2 (g := w4.heap.size) rfl HRO.out (Nat.le_refl _)) RatO.one (fun _ hg => RatO.grown HROW.out (by decide) hg) (by simp [Act.eval]) (by simp [Act.eval]) HB5.out HLN.out ?_; rintro v6 w6 ho hg; obtain ⟨A6, c6, rfl, _⟩ := ho.sv.form; rw [HLN2.out] at ho ⊢; have HO6 := Aside.mk ho; have HE6 := Aside.mk (HROW.out.ext_grown (HE.out.trans HX5.out) (Nat.le_refl _) hg); have hk6 : Four w6 wr.heap.size (.int .i64 q.f) (.bool q.neg) (.slice X lx cx) (.slice Y ly cy) := ⟨(hg.cell_far ⟨wr.heap.size, 0, none⟩ HBB.out HNE.out).trans hk5.1, (hg.cell_far ⟨wr.heap.size, 1, none⟩ HBB.out HNE.out).trans hk5.2.1, (hg.cell_far ⟨wr.heap.size, 2, none⟩ HBB.out HNE.out).trans hk5.2.2.1, (hg.cell_far ⟨wr.heap.size, 3, none⟩ HBB.out HNE.out).trans hk5.2.2.2⟩; clear ho hg)
            refine hK.out _ _ (by (try dsimp only); (first | assumption | exact Four.ext (by assumption) (by assumption) | exact Four.ext ((Ext.refl _).alloc _) (by assumption))) (fun hHeld => ?_)
            clear hK K
            refine wpAnyH_take (i := 26) (v := ?_) rfl (by kernel_rfl) (by kernel_rfl) (by kernel_rfl) (fun _ _ _ h => h) (Or.inl ⟨by rfl, ?_⟩) (by assumption) ?_
            rotate_left
            · (intro w hSw; (try dsimp only at hSw); (first | (go_simp; done) | (go_simp; with_reducible rfl)))
            try simp only [Act.put, List.setIfInBounds_toArray, List.set_cons_zero, List.set_cons_succ]
            refine wpAnyH_done (by kernel_rfl) ?_ _
            clear hk0 hk3 hk4 hk5 hk6
            go_wp2_with fail
            go_roundw
            case rel => exact ⟨j + 1, A6, c6, by omega, by omega, by go_num, rfl, HE6, ⟨by rw [HTK.out]; exact HO6.out⟩⟩
            case measure => simp [intOf]; omega
        · go_simp
          refine hK.out _ _ (by (try dsimp only); (first | assumption | exact Four.ext (by assumption) (by assumption) | exact Four.ext ((Ext.refl _).alloc _) (by assumption))) (fun hHeld => ?_)
          clear hK K
          refine wpAnyH_ready (rs := [5]) (by kernel_rfl) (by simp) ?_
          refine AllReadyH.cons rfl (fun K hK => ?_) AllReadyH.nil
          go_simp
          refine hK.out _ _ (by (try dsimp only); (first | assumption | exact Four.ext (by assumption) (by assumption) | exact Four.ext ((Ext.refl _).alloc _) (by assumption))) (fun hHeld => ?_)
          clear hK K
          refine wpAnyH_ready (rs := [13]) (by kernel_rfl) (by simp) ?_
          refine AllReadyH.cons rfl (fun K hK => ?_) AllReadyH.nil
          (have _t := tok1; refine step_lit (base := w.heap.size) elemU32 U32C.ext rfl (.tmp 28) (.tmp 35) rfl (.slice X m1 cx) (q.num.take 130) (by rfl) (by rfl) (lit_at (by (repeat (first | with_reducible refine lit_ext HE0 ?_ | with_reducible refine lit_drew ?_ | ((with_reducible refine lit_new ?_); simp; done) | with_reducible refine lit_old ?_))) (by have := HZ0.out; simp at this ⊢ <;> omega)) (HSX.out ⟨by (repeat (first | with_reducible exact Ext.refl _ | with_reducible refine Ext.drew ?_ | with_reducible refine Ext.alloc ?_ _))⟩) (by have := HZ0.out; simp at this ⊢ <;> omega) ?_; rintro v1 w3 h1 he1; have hk3 := Four.ext he1 (show Four _ wr.heap.size (.int .i64 q.f) (.bool q.neg) (.slice X lx cx) (.slice Y ly cy) from by assumption); have HX1 := Aside.mk (Ext.trans (show Ext wr _ by (repeat (first | with_reducible exact Ext.refl _ | with_reducible refine Ext.drew ?_ | with_reducible refine Ext.alloc ?_ _))) he1); obtain ⟨A1, c1, rfl, _⟩ := h1.sv.form; rw [HLX.out] at h1 ⊢; have HR1 := Aside.mk h1; have HE1 := Aside.mk he1; have HZ1 := Aside.mk he1.size; clear h1 he1 _t tok1)
          refine hK.out _ _ (by (try dsimp only); (first | assumption | exact Four.ext (by assumption) (by assumption) | exact Four.ext ((Ext.refl _).alloc _) (by assumption))) (fun hHeld => ?_)
          clear hK K
          refine wpAnyH_ready (rs := [22]) (by kernel_rfl) (by simp) ?_
          refine AllReadyH.cons rfl (fun K hK => ?_) AllReadyH.nil
          (have _t := tok2; refine step_lit (base := w.heap.size) elemU32 U32C.ext rfl (.tmp 37) (.tmp 44) rfl (.slice Y m2 cy) (q.den.take 130) (by rfl) (by rfl) (lit_at (by (repeat (first | with_reducible refine lit_ext HE1 ?_ | with_reducible refine lit_drew ?_ | ((with_reducible refine lit_new ?_); simp; done) | with_reducible refine lit_old ?_))) (by have := HZ1.out; have := HZ0.out; simp at * <;> omega)) (HSY.out ⟨HX1.out.trans (by (repeat (first | with_reducible exact Ext.refl _ | with_reducible refine Ext.drew ?_ | with_reducible refine Ext.alloc ?_ _)))⟩) (by have := HZ1.out; have := HZ0.out; simp at * <;> omega) ?_; rintro v2 w4 h2 he2; have hk4 := Four.ext he2 (show Four _ wr.heap.size (.int .i64 q.f) (.bool q.neg) (.slice X lx cx) (.slice Y ly cy) from by assumption); have HX2 := Aside.mk ((HX1.out.trans (by (repeat (first | with_reducible exact Ext.refl _ | with_reducible refine Ext.drew ?_ | with_reducible refine Ext.alloc ?_ _)))).trans he2); obtain ⟨A2, c2, rfl, _⟩ := h2.sv.form; rw [HLY.out] at h2 ⊢; have HR2 := Aside.mk h2; have HR1b := Aside.mk (HR1.out.ext U32C.ext (Ext.trans (by (repeat (first | with_reducible exact Ext.refl _ | with_reducible refine Ext.drew ?_ | with_reducible refine Ext.alloc ?_ _))) he2)); have hk5 := Four.ext ((Ext.refl w4).alloc (.cells #[.int .i64 q.f, .bool q.neg, .slice A1 m1 c1, .slice A2 m2 c2] 83)) hk4; have HX5 := Aside.mk (HX2.out.alloc (.cells #[.int .i64 q.f, .bool q.neg, .slice A1 m1 c1, .slice A2 m2 c2] 83)); have HROW := Aside.mk (HOUT.out.ext (RatO.ext _) HX5.out); have HRO : Aside (RO w.heap.size w4 (.agg #[.int .i64 q.f, .bool q.neg, .slice A1 m1 c1, .slice A2 m2 c2]) (cutq q)) := ⟨_, _, rfl, HR1b.out.ov HDX.out, HR2.out.ov HDY.out⟩; have HB5 := Aside.mk (Nat.le_trans HZ0.out HX5.out.size); have HBB := Aside.mk (World.block_lt_of_cell? _ _ hk5.1); clear h2 he2 _t tok2)
          refine hK.out _ _ (by (try dsimp only); (first | assumption | exact Four.ext (by assumption) (by assumption) | exact Four.ext ((Ext.refl _).alloc _) (by assumption))) (fun hHeld => ?_)
          clear hK K
          refine wpAnyH_take (i := 23) (v := ?_) rfl (by kernel_rfl) (by kernel_rfl) (by kernel_rfl) (fun _ _ _ h => h) (Or.inl ⟨by rfl, ?_⟩) (by assumption) ?_
          rotate_left
          · (intro w hSw; (try dsimp only at hSw); (first | (go_simp; done) | (go_simp; with_reducible rfl)))
          try simp only [Act.put, List.setIfInBounds_toArray, List.set_cons_zero, List.set_cons_succ]
          refine wpAnyH_ready (rs := [24]) (by kernel_rfl) (by simp) ?_
          refine AllReadyH.cons rfl (fun K hK => ?_) AllReadyH.nil
          go_simp
          refine hK.out _ _ (by (try dsimp only); (first | assumption | exact Four.ext (by assumption) (by assumption) | exact Four.ext ((Ext.refl _).alloc _) (by assumption))) (fun hHeld => ?_)
          clear hK K
          refine wpAnyH_ready (rs := [25]) (by kernel_rfl) (by simp) ?_
          refine AllReadyH.cons rfl (fun K hK => ?_) AllReadyH.nil
          (refine step_append_so (R := RatO w.heap.size) (W := w4.alloc (.cells #[.int .i64 q.f, .bool q.neg, .slice A1 m1 c1, .slice A2 m2 c2] 83)) w.heap.size elemRat rfl (.tmp 23) (.tmp 47) rfl (.slice N j cN) (.slice (some ⟨w4.heap.size, 0, none⟩) 1 1) ((l.take j).map cutq) [cutq q] HROW.out (one_rat2 (g := w4.heap.size) rfl HRO.out (Nat.le_refl _)) RatO.one (fun _ hg => RatO.grown HROW.out (by decide) hg) (by simp [Act.eval]) (by simp [Act.eval]) HB5.out HLN.out ?_; rintro v6 w6 ho hg; obtain ⟨A6, c6, rfl, _⟩ := ho.sv.form; rw [HLN2.out] at ho ⊢; have HO6 := Aside.mk ho; have HE6 := Aside.mk (HROW.out.ext_grown (HE.out.trans HX5.out) (Nat.le_refl _) hg); have hk6 : Four w6 wr.heap.size (.int .i64 q.f) (.bool q.neg) (.slice X lx cx) (.slice Y ly cy) := ⟨(hg.cell_far ⟨wr.heap.size, 0, none⟩ HBB.out HNE.out).trans hk5.1, (hg.cell_far ⟨wr.heap.size, 1, none⟩ HBB.out HNE.out).trans hk5.2.1, (hg.cell_far ⟨wr.heap.size, 2, none⟩ HBB.out HNE.out).trans hk5.2.2.1, (hg.cell_far ⟨wr.heap.size, 3, none⟩ HBB.out HNE.out).trans hk5.2.2.2⟩; clear ho hg)
          refine hK.out _ _ (by (try dsimp only); (first | assumption | exact Four.ext (by assumption) (by assumption) | exact Four.ext ((Ext.refl _).alloc _) (by assumption))) (fun hHeld => ?_)
          clear hK K
          refine wpAnyH_take (i := 26) (v := ?_) rfl (by kernel_rfl) (by kernel_rfl) (by kernel_rfl) (fun _ _ _ h => h) (Or.inl ⟨by rfl, ?_⟩) (by assumption) ?_
          rotate_left
          · (intro w hSw; (try dsimp only at hSw); (first | (go_simp; done) | (go_simp; with_reducible rfl)))
          try simp only [Act.put, List.setIfInBounds_toArray, List.set_cons_zero, List.set_cons_succ]
          refine wpAnyH_done (by kernel_rfl) ?_ _
          clear hk0 hk3 hk4 hk5 hk6
          go_wp2_with fail
          go_roundw
          case rel => exact ⟨j + 1, A6, c6, by omega, by omega, by go_num, rfl, HE6, ⟨by rw [HTK.out]; exact HO6.out⟩⟩
          case measure => simp [intOf]; omega
      · have HJ : Aside (j = most) := ⟨by omega⟩
        go_wp2_with fail
        refine bodyPost_ret (v := .slice N j cN) (by simp [results, Tryz.results48, go_sem]) rfl ⟨_, rfl, ?_, HE.out⟩
        rw [← HJ.out]
        exact HOUT.out
    · have HJ : Aside (l.take most = l.take j) := ⟨by rw [List.take_of_length_le (by have := HN.out; omega), List.take_of_length_le (by have := HN.out; omega)]⟩
      go_wp2_with fail
      refine bodyPost_ret (v := .slice N j cN) (by simp [results, Tryz.results48, go_sem]) rfl ⟨_, rfl, ?_, HE.out⟩
      rw [HJ.out]
      exact HOUT.out
end Go.Proofs.YtcbaipnphepbeaaGreatDoor

namespace Go.Proofs.YtcbaipnphepbeaaGreatDoor
open Go.RowKit
attribute [local go_sem ↓] Go.wp_at_zero Go.wp_at_succ

/-- A Value, its lists however long. -/
def VL (w : World) (x : Value) (v : Vq) : Prop := ∃ d n b, x = .agg #[.int .i64 v.k, d, n, b] ∧ RawL 1 IntC w d v.ds ∧ RawL 4 RatL w n v.nums ∧ RawL 2 BitC w b v.bits
theorem VL.ext {w w' : World} {x : Value} {v : Vq} (h : VL w x v) (e : Ext w w') : VL w' x v :=
  let ⟨d, n, b, h1, h2, h3, h4⟩ := h; ⟨d, n, b, h1, h2.ext IntC.ext e, h3.ext RatL.ext e, h4.ext BitC.ext e⟩
/-- A Value as the law takes it. -/
def cutv (v : Vq) : Vq := ⟨v.k, v.ds.take 8, (v.nums.take 514).map cutq, v.bits.take 514⟩
theorem rats514_calls {w : World} {v : Value} {l : List Rq} (h : RawL 4 RatL w v l) {qs : List Rq} (hq : (l.take 514).map cutq = qs) :
    Calls Tryz.prog 48 #[v, .int .i64 514] w fun e w' => ∃ r, e = .returned r ∧ SO w.heap.size 83 4 (RatO w.heap.size) w' r qs ∧ Ext w w' := hq ▸ rats_calls (most := 514) h (by decide)
set_option linter.unusedSimpArgs false in
set_option maxRecDepth 10000 in
set_option maxHeartbeats 8000000 in
theorem value_calls {w : World} {x : Value} {v : Vq} (h : VL w x v) :
    Calls Tryz.prog 13 #[x] w fun e w' => ∃ r, e = .returned r ∧ VO w.heap.size w' r (cutv v) ∧ Ext w w' := by
  obtain ⟨d, n, b, rfl, hd, hn, hb⟩ := h
  obtain ⟨k, ds, ns, bts⟩ := v
  dsimp only at *
  have HD := Aside.mk (show TL w (.agg #[.int .i64 k, d]) k ds from ⟨_, rfl, hd⟩)
  have HNN := Aside.mk hn
  have HB := Aside.mk hb
  obtain ⟨D, cd, xs, rfl, _, _, _⟩ := hd
  obtain ⟨A, ca, ys, rfl, _, _, _⟩ := hn
  obtain ⟨B, cb, zs, rfl, hbc, hbl, _⟩ := hb
  obtain ⟨nd, hnd⟩ : ∃ n, ds.length = n := ⟨_, rfl⟩
  obtain ⟨nn, hnn⟩ : ∃ n, ns.length = n := ⟨_, rfl⟩
  obtain ⟨m, hm⟩ : ∃ m, min bts.length 514 = m := ⟨_, rfl⟩
  have hmin : min (bts.length : Int) 514 = (m : Int) := by omega
  have e1 : bts.take 514 = bts.take m := by rw [← hm, Nat.min_comm]; exact List.take_eq_take_min
  obtain ⟨es, hes⟩ : ∃ es, bts.take 514 = es := ⟨_, rfl⟩
  have HSB : Aside (∀ {W : World}, Aside (Ext w W) → SW 2 BitC W (.slice B m cb) es) := ⟨fun e => by rw [← hes, e1]; exact (HB.out.ext BitC.ext e.out).take m (by omega) (by omega)⟩
  have HLB : Aside (es.length = m) := ⟨by rw [← hes, e1]; simp; omega⟩
  have i1 : (0 : Int) ≤ (m : Int) := by omega
  have i2 : (m : Int) ≤ (bts.length : Int) := by omega
  have i3 : (m : Int) ≤ (cb : Int) := by omega
  obtain ⟨ds1, hd1⟩ : ∃ es, ds.take 8 = es := ⟨_, rfl⟩
  obtain ⟨qs1, hq1⟩ : ∃ es, (ns.take 514).map cutq = es := ⟨_, rfl⟩
  obtain ⟨l1, hl1⟩ : ∃ n, ds1.length = n := ⟨_, rfl⟩
  obtain ⟨l2, hl2⟩ : ∃ n, qs1.length = n := ⟨_, rfl⟩
  have HQ1 := Aside.mk hd1
  have HQ2 := Aside.mk hq1
  have HL1 := Aside.mk hl1
  have HL2 := Aside.mk hl2
  have HZ : Aside (cutv ⟨k, ds, ns, bts⟩ = ⟨k, ds1, qs1, es⟩) := ⟨by rw [cutv, ← hes, ← hd1, ← hq1]⟩
  clear hd1 hq1 hl1 hl2
  rw [HZ.out]
  unfold maxLen at hbl
  clear e1 hes hm
  rw [hnd] at HD ⊢
  rw [hnn] at HNN ⊢
  generalize bts.length = nb at *
  have hk0 := (KeepO.init w (.int .i64 k) (.slice D nd cd) (.slice A nn ca) (.slice B nb cb) (.int .i64 0) (.slice none 0 0) (.slice none 0 0) (.slice none 0 0) 29 29).ext ((Ext.refl _).drew)
  go_enter Tryz.func13, Tryz.ntmps13
  go_wp2_with fail
  refine wp_region_held_drew (S := fun w' => KeepO w (.int .i64 k) (.slice D nd cd) (.slice A nn ca) (.slice B nb cb) w') (by kernel_rfl) hk0 (fun hHeld => ?_)
  refine wpAnyH_take (i := 0) (v := ?_) rfl (by kernel_rfl) (by kernel_rfl) (by kernel_rfl) (fun _ _ _ h => h) (Or.inl ⟨by rfl, ?_⟩) (by assumption) ?_
  rotate_left
  · (intro w hSw; (try dsimp only at hSw); (first | (go_simp; done) | (go_simp; with_reducible rfl)))
  try simp only [Act.put, List.setIfInBounds_toArray, List.set_cons_zero, List.set_cons_succ]
  refine wpAnyH_take (i := 1) (v := ?_) rfl (by kernel_rfl) (by kernel_rfl) (by kernel_rfl) (fun _ _ _ h => h) (Or.inl ⟨by rfl, ?_⟩) (by assumption) ?_
  rotate_left
  · (intro w hSw; (try dsimp only at hSw); (first | (go_simp; done) | (go_simp; with_reducible rfl)))
  try simp only [Act.put, List.setIfInBounds_toArray, List.set_cons_zero, List.set_cons_succ]
  refine wpAnyH_take (i := 3) (v := ?_) rfl (by kernel_rfl) (by kernel_rfl) (by kernel_rfl) (fun _ _ _ h => h) (Or.inl ⟨by rfl, ?_⟩) (by assumption) ?_
  rotate_left
  · (intro w hSw; (try dsimp only at hSw); (first | (go_simp; done) | (go_simp; with_reducible rfl)))
  try simp only [Act.put, List.setIfInBounds_toArray, List.set_cons_zero, List.set_cons_succ]
  refine wpAnyH_take (i := 4) (v := ?_) rfl (by kernel_rfl) (by kernel_rfl) (by kernel_rfl) (fun _ _ _ h => h) (Or.inl ⟨by rfl, ?_⟩) (by assumption) ?_
  rotate_left
  · (intro w hSw; (try dsimp only at hSw); (first | (go_simp; done) | (go_simp; with_reducible rfl)))
  try simp only [Act.put, List.setIfInBounds_toArray, List.set_cons_zero, List.set_cons_succ]
  refine wpAnyH_take (i := 7) (v := ?_) rfl (by kernel_rfl) (by kernel_rfl) (by kernel_rfl) (fun _ _ _ h => h) (Or.inl ⟨by rfl, ?_⟩) (by assumption) ?_
  rotate_left
  · (intro w hSw; (try dsimp only at hSw); (first | (go_simp; done) | (go_simp; with_reducible rfl)))
  try simp only [Act.put, List.setIfInBounds_toArray, List.set_cons_zero, List.set_cons_succ]
  refine wpAnyH_take (i := 8) (v := ?_) rfl (by kernel_rfl) (by kernel_rfl) (by kernel_rfl) (fun _ _ _ h => h) (Or.inl ⟨by rfl, ?_⟩) (by assumption) ?_
  rotate_left
  · (intro w hSw; (try dsimp only at hSw); (first | (go_simp; done) | (go_simp; with_reducible rfl)))
  try simp only [Act.put, List.setIfInBounds_toArray, List.set_cons_zero, List.set_cons_succ]
  refine wpAnyH_take (i := 9) (v := ?_) rfl (by kernel_rfl) (by kernel_rfl) (by kernel_rfl) (fun _ _ _ h => h) (Or.inl ⟨by rfl, ?_⟩) (by assumption) ?_
  rotate_left
  · (intro w hSw; (try dsimp only at hSw); (first | (go_simp; done) | (go_simp; with_reducible rfl)))
  try simp only [Act.put, List.setIfInBounds_toArray, List.set_cons_zero, List.set_cons_succ]
  refine wpAnyH_take (i := 10) (v := ?_) rfl (by kernel_rfl) (by kernel_rfl) (by kernel_rfl) (fun _ _ _ h => h) (Or.inl ⟨by rfl, ?_⟩) (by assumption) ?_
  rotate_left
  · (intro w hSw; (try dsimp only at hSw); (first | (go_simp; done) | (go_simp; with_reducible rfl)))
  try simp only [Act.put, List.setIfInBounds_toArray, List.set_cons_zero, List.set_cons_succ]
  refine wpAnyH_take (i := 11) (v := ?_) rfl (by kernel_rfl) (by kernel_rfl) (by kernel_rfl) (fun _ _ _ h => h) (Or.inl ⟨by rfl, ?_⟩) (by assumption) ?_
  rotate_left
  · (intro w hSw; (try dsimp only at hSw); (first | (go_simp; done) | (go_simp; with_reducible rfl)))
  try simp only [Act.put, List.setIfInBounds_toArray, List.set_cons_zero, List.set_cons_succ]
  refine wpAnyH_take (i := 12) (v := ?_) rfl (by kernel_rfl) (by kernel_rfl) (by kernel_rfl) (fun _ _ _ h => h) (Or.inl ⟨by rfl, ?_⟩) (by assumption) ?_
  rotate_left
  · (intro w hSw; (try dsimp only at hSw); (first | (go_simp; done) | (go_simp; with_reducible rfl)))
  try simp only [Act.put, List.setIfInBounds_toArray, List.set_cons_zero, List.set_cons_succ]
  refine wpAnyH_take (i := 13) (v := ?_) rfl (by kernel_rfl) (by kernel_rfl) (by kernel_rfl) (fun _ _ _ h => h) (Or.inl ⟨by rfl, ?_⟩) (by assumption) ?_
  rotate_left
  · (intro w hSw; (try dsimp only at hSw); (first | (go_simp; done) | (go_simp; with_reducible rfl)))
  try simp only [Act.put, List.setIfInBounds_toArray, List.set_cons_zero, List.set_cons_succ]
  refine wpAnyH_ready (rs := [2, 6]) (by kernel_rfl) (by simp) ?_
  refine AllReadyH.cons rfl (fun K hK => ?_) (AllReadyH.cons rfl (fun K hK => ?_) AllReadyH.nil)
  · go_simp
    go_wp2_with (go_at_call 35; with_reducible refine (typed_calls ((HD.out).ext (Aside.out (And.left (show KeepO w (.int .i64 k) (.slice D nd cd) (.slice A nn ca) (.slice B nb cb) _ from by assumption)))) HQ1.out).mono ?_; rintro e w1 ⟨r1, rfl, hr, he1⟩; obtain ⟨A1, c1, rfl, _⟩ := hr.sv.form; rw [HL1.out] at hr ⊢; have HR1 := Aside.mk hr; have HE1 := Aside.mk he1; clear hr)
    refine hK.out _ _ (by (try dsimp only); (first | assumption | exact KeepO.ext (by assumption) (by assumption) | exact KeepO.ext ((Ext.refl _).alloc _) (by assumption))) (fun hHeld => ?_)
    clear hK K
    refine wpAnyH_ready (rs := [5, 6]) (by kernel_rfl) (by simp) ?_
    refine AllReadyH.cons rfl (fun K hK => ?_) (AllReadyH.cons rfl (fun K hK => ?_) AllReadyH.nil)
    · go_simp
      go_wp2_with (go_at_call 48; with_reducible refine (rats514_calls (HNN.out.ext RatL.ext (Aside.out (And.left (show KeepO w (.int .i64 k) (.slice D nd cd) (.slice A nn ca) (.slice B nb cb) _ from by assumption)))) HQ2.out).mono ?_; rintro e w2 ⟨r2, rfl, hr, he2⟩; obtain ⟨A2, c2, rfl, _⟩ := hr.sv.form; rw [HL2.out] at hr ⊢; have HR2 := Aside.mk hr; have HE2 := Aside.mk he2; clear hr)
      refine hK.out _ _ (by (try dsimp only); (first | assumption | exact KeepO.ext (by assumption) (by assumption) | exact KeepO.ext ((Ext.refl _).alloc _) (by assumption))) (fun hHeld => ?_)
      clear hK K
      refine wpAnyH_ready (rs := [6]) (by kernel_rfl) (by simp) ?_
      refine AllReadyH.cons rfl (fun K hK => ?_) AllReadyH.nil
      go_simp
      refine hK.out _ _ (by (try dsimp only); (first | assumption | exact KeepO.ext (by assumption) (by assumption) | exact KeepO.ext ((Ext.refl _).alloc _) (by assumption))) (fun hHeld => ?_)
      clear hK K
      refine wpAnyH_ready (rs := [14]) (by kernel_rfl) (by simp) ?_
      refine AllReadyH.cons rfl (fun K hK => ?_) AllReadyH.nil
      (refine step_lit (base := w.heap.size + 2) elemBit BitC.ext rfl (.tmp 9) (.tmp 16) rfl (.slice B m cb) es (by rfl) (by rfl) (lit_at (by (repeat (first | with_reducible refine lit_ext HE2 ?_ | with_reducible refine lit_ext HE1 ?_ | with_reducible refine lit_drew ?_ | ((with_reducible refine lit_new ?_); simp; done) | with_reducible refine lit_old ?_))) (by have := HE1.out.size; have := HE2.out.size; simp at * <;> omega)) (HSB.out ⟨(Aside.out (And.left (show KeepO w (.int .i64 k) (.slice D nd cd) (.slice A nn ca) (.slice B nb cb) _ from by assumption)))⟩) (by have := HE1.out.size; have := HE2.out.size; simp at * <;> omega) ?_; rintro v3 w3 h3 he3; obtain ⟨A3, c3, rfl, _⟩ := h3.sv.form; rw [HLB.out] at h3 ⊢; have HR3 := Aside.mk h3; have HE3 := Aside.mk he3; clear h3)
      refine hK.out _ _ (by (try dsimp only); (first | assumption | exact KeepO.ext (by assumption) (by assumption) | exact KeepO.ext ((Ext.refl _).alloc _) (by assumption))) (fun hHeld => ?_)
      clear hK K
      have hk3 : KeepO w (.int .i64 k) (.slice D nd cd) (.slice A nn ca) (.slice B nb cb) w3 := by assumption
      refine wpAnyH_take (i := 15) (v := ?_) rfl (by kernel_rfl) (by kernel_rfl) (by kernel_rfl) (fun _ _ _ h => h) (Or.inl ⟨by rfl, ?_⟩) (by assumption) ?_
      rotate_left
      · (intro w hSw; (try dsimp only at hSw); (first | (go_simp; done) | (go_simp; with_reducible rfl)))
      try simp only [Act.put, List.setIfInBounds_toArray, List.set_cons_zero, List.set_cons_succ]
      refine wpAnyH_ready (rs := [16]) (by kernel_rfl) (by simp) ?_
      refine AllReadyH.cons rfl (fun K hK => ?_) AllReadyH.nil
      go_simp
      refine hK.out _ _ ((((KeepO.set (show KeepO w (.int .i64 k) (.slice D nd cd) (.slice A nn ca) (.slice B nb cb) _ from by assumption) _ _).set _ _).set _ _).set _ _) (fun hHeld => ?_)
      clear hK K hHeld
      refine wpAnyH_done (by kernel_rfl) ?_ _
      have HXE := Aside.mk he3
      clear hk0
      go_wp2_with fail
      refine bodyPost_ret (v := .agg #[.int .i64 k, .slice A1 l1 c1, .slice A2 l2 c2, .slice A3 m c3]) (by simp [results, Tryz.results13, go_sem, hk3]) rfl ⟨_, rfl, ⟨_, _, _, rfl, ?_, ?_, ?_⟩, ext_set4 (Aside.out (And.left hk3)) (Nat.le_succ _) _ _ _ _⟩
      · exact ((HR1.out.ext IntC.ext (Ext.trans (Ext.trans HE2.out ((Ext.refl _).alloc _)) HE3.out)).set4 (by simp) _ _ _ _ (fun _ _ _ _ _ _ h => h)).mono (by simp; omega)
      · have hz : w.heap.size + 1 < w1.heap.size := by have := HE1.out.size; simp at this; omega
        exact ((HR2.out.ext (RatO.ext _) (Ext.trans ((Ext.refl _).alloc _) HE3.out)).set4 (Nat.lt_of_lt_of_le hz (by first | exact Nat.le_refl _ | simp)) _ _ _ _ (fun w p hp u c a h => RatO.set hp u c a h)).mono (by first | omega | (simp; omega)) |>.monoR (fun _ _ h => h.mono (by first | omega | (simp; omega)))
      · exact (HR3.out.set4 (by omega) _ _ _ _ (fun _ _ _ _ _ _ h => h)).mono (by omega)
    · go_simp
      refine hK.out _ _ (by (try dsimp only); (first | assumption | exact KeepO.ext (by assumption) (by assumption) | exact KeepO.ext ((Ext.refl _).alloc _) (by assumption))) (fun hHeld => ?_)
      clear hK K
      refine wpAnyH_ready (rs := [5]) (by kernel_rfl) (by simp) ?_
      refine AllReadyH.cons rfl (fun K hK => ?_) AllReadyH.nil
      go_simp
      go_wp2_with (go_at_call 48; with_reducible refine (rats514_calls (HNN.out.ext RatL.ext (Aside.out (And.left (show KeepO w (.int .i64 k) (.slice D nd cd) (.slice A nn ca) (.slice B nb cb) _ from by assumption)))) HQ2.out).mono ?_; rintro e w2 ⟨r2, rfl, hr, he2⟩; obtain ⟨A2, c2, rfl, _⟩ := hr.sv.form; rw [HL2.out] at hr ⊢; have HR2 := Aside.mk hr; have HE2 := Aside.mk he2; clear hr)
      refine hK.out _ _ (by (try dsimp only); (first | assumption | exact KeepO.ext (by assumption) (by assumption) | exact KeepO.ext ((Ext.refl _).alloc _) (by assumption))) (fun hHeld => ?_)
      clear hK K
      refine wpAnyH_ready (rs := [14]) (by kernel_rfl) (by simp) ?_
      refine AllReadyH.cons rfl (fun K hK => ?_) AllReadyH.nil
      (refine step_lit (base := w.heap.size + 2) elemBit BitC.ext rfl (.tmp 9) (.tmp 16) rfl (.slice B m cb) es (by rfl) (by rfl) (lit_at (by (repeat (first | with_reducible refine lit_ext HE2 ?_ | with_reducible refine lit_ext HE1 ?_ | with_reducible refine lit_drew ?_ | ((with_reducible refine lit_new ?_); simp; done) | with_reducible refine lit_old ?_))) (by have := HE1.out.size; have := HE2.out.size; simp at * <;> omega)) (HSB.out ⟨(Aside.out (And.left (show KeepO w (.int .i64 k) (.slice D nd cd) (.slice A nn ca) (.slice B nb cb) _ from by assumption)))⟩) (by have := HE1.out.size; have := HE2.out.size; simp at * <;> omega) ?_; rintro v3 w3 h3 he3; obtain ⟨A3, c3, rfl, _⟩ := h3.sv.form; rw [HLB.out] at h3 ⊢; have HR3 := Aside.mk h3; have HE3 := Aside.mk he3; clear h3)
      refine hK.out _ _ (by (try dsimp only); (first | assumption | exact KeepO.ext (by assumption) (by assumption) | exact KeepO.ext ((Ext.refl _).alloc _) (by assumption))) (fun hHeld => ?_)
      clear hK K
      have hk3 : KeepO w (.int .i64 k) (.slice D nd cd) (.slice A nn ca) (.slice B nb cb) w3 := by assumption
      refine wpAnyH_take (i := 15) (v := ?_) rfl (by kernel_rfl) (by kernel_rfl) (by kernel_rfl) (fun _ _ _ h => h) (Or.inl ⟨by rfl, ?_⟩) (by assumption) ?_
      rotate_left
      · (intro w hSw; (try dsimp only at hSw); (first | (go_simp; done) | (go_simp; with_reducible rfl)))
      try simp only [Act.put, List.setIfInBounds_toArray, List.set_cons_zero, List.set_cons_succ]
      refine wpAnyH_ready (rs := [16]) (by kernel_rfl) (by simp) ?_
      refine AllReadyH.cons rfl (fun K hK => ?_) AllReadyH.nil
      go_simp
      refine hK.out _ _ ((((KeepO.set (show KeepO w (.int .i64 k) (.slice D nd cd) (.slice A nn ca) (.slice B nb cb) _ from by assumption) _ _).set _ _).set _ _).set _ _) (fun hHeld => ?_)
      clear hK K hHeld
      refine wpAnyH_done (by kernel_rfl) ?_ _
      have HXE := Aside.mk he3
      clear hk0
      go_wp2_with fail
      refine bodyPost_ret (v := .agg #[.int .i64 k, .slice A1 l1 c1, .slice A2 l2 c2, .slice A3 m c3]) (by simp [results, Tryz.results13, go_sem, hk3]) rfl ⟨_, rfl, ⟨_, _, _, rfl, ?_, ?_, ?_⟩, ext_set4 (Aside.out (And.left hk3)) (Nat.le_succ _) _ _ _ _⟩
      · exact ((HR1.out.ext IntC.ext (Ext.trans (Ext.trans ((Ext.refl _).alloc _) HE2.out) HE3.out)).set4 (by simp) _ _ _ _ (fun _ _ _ _ _ _ h => h)).mono (by simp; omega)
      · have hz : w.heap.size + 1 < w1.heap.size := by have := HE1.out.size; simp at this; omega
        exact ((HR2.out.ext (RatO.ext _) (Ext.trans (Ext.refl _) HE3.out)).set4 (Nat.lt_of_lt_of_le hz (by first | exact Nat.le_refl _ | simp)) _ _ _ _ (fun w p hp u c a h => RatO.set hp u c a h)).mono (by first | omega | (simp; omega)) |>.monoR (fun _ _ h => h.mono (by first | omega | (simp; omega)))
      · exact (HR3.out.set4 (by omega) _ _ _ _ (fun _ _ _ _ _ _ h => h)).mono (by omega)
  · go_simp
    refine hK.out _ _ (by (try dsimp only); (first | assumption | exact KeepO.ext (by assumption) (by assumption) | exact KeepO.ext ((Ext.refl _).alloc _) (by assumption))) (fun hHeld => ?_)
    clear hK K
    refine wpAnyH_ready (rs := [2]) (by kernel_rfl) (by simp) ?_
    refine AllReadyH.cons rfl (fun K hK => ?_) AllReadyH.nil
    go_simp
    go_wp2_with (go_at_call 35; with_reducible refine (typed_calls ((HD.out).ext (Aside.out (And.left (show KeepO w (.int .i64 k) (.slice D nd cd) (.slice A nn ca) (.slice B nb cb) _ from by assumption)))) HQ1.out).mono ?_; rintro e w1 ⟨r1, rfl, hr, he1⟩; obtain ⟨A1, c1, rfl, _⟩ := hr.sv.form; rw [HL1.out] at hr ⊢; have HR1 := Aside.mk hr; have HE1 := Aside.mk he1; clear hr)
    refine hK.out _ _ (by (try dsimp only); (first | assumption | exact KeepO.ext (by assumption) (by assumption) | exact KeepO.ext ((Ext.refl _).alloc _) (by assumption))) (fun hHeld => ?_)
    clear hK K
    refine wpAnyH_ready (rs := [5]) (by kernel_rfl) (by simp) ?_
    refine AllReadyH.cons rfl (fun K hK => ?_) AllReadyH.nil
    go_simp
    go_wp2_with (go_at_call 48; with_reducible refine (rats514_calls (HNN.out.ext RatL.ext (Aside.out (And.left (show KeepO w (.int .i64 k) (.slice D nd cd) (.slice A nn ca) (.slice B nb cb) _ from by assumption)))) HQ2.out).mono ?_; rintro e w2 ⟨r2, rfl, hr, he2⟩; obtain ⟨A2, c2, rfl, _⟩ := hr.sv.form; rw [HL2.out] at hr ⊢; have HR2 := Aside.mk hr; have HE2 := Aside.mk he2; clear hr)
    refine hK.out _ _ (by (try dsimp only); (first | assumption | exact KeepO.ext (by assumption) (by assumption) | exact KeepO.ext ((Ext.refl _).alloc _) (by assumption))) (fun hHeld => ?_)
    clear hK K
    refine wpAnyH_ready (rs := [14]) (by kernel_rfl) (by simp) ?_
    refine AllReadyH.cons rfl (fun K hK => ?_) AllReadyH.nil
    (refine step_lit (base := w.heap.size + 2) elemBit BitC.ext rfl (.tmp 9) (.tmp 16) rfl (.slice B m cb) es (by rfl) (by rfl) (lit_at (by (repeat (first | with_reducible refine lit_ext HE2 ?_ | with_reducible refine lit_ext HE1 ?_ | with_reducible refine lit_drew ?_ | ((with_reducible refine lit_new ?_); simp; done) | with_reducible refine lit_old ?_))) (by have := HE1.out.size; have := HE2.out.size; simp at * <;> omega)) (HSB.out ⟨(Aside.out (And.left (show KeepO w (.int .i64 k) (.slice D nd cd) (.slice A nn ca) (.slice B nb cb) _ from by assumption)))⟩) (by have := HE1.out.size; have := HE2.out.size; simp at * <;> omega) ?_; rintro v3 w3 h3 he3; obtain ⟨A3, c3, rfl, _⟩ := h3.sv.form; rw [HLB.out] at h3 ⊢; have HR3 := Aside.mk h3; have HE3 := Aside.mk he3; clear h3)
    refine hK.out _ _ (by (try dsimp only); (first | assumption | exact KeepO.ext (by assumption) (by assumption) | exact KeepO.ext ((Ext.refl _).alloc _) (by assumption))) (fun hHeld => ?_)
    clear hK K
    have hk3 : KeepO w (.int .i64 k) (.slice D nd cd) (.slice A nn ca) (.slice B nb cb) w3 := by assumption
    refine wpAnyH_take (i := 15) (v := ?_) rfl (by kernel_rfl) (by kernel_rfl) (by kernel_rfl) (fun _ _ _ h => h) (Or.inl ⟨by rfl, ?_⟩) (by assumption) ?_
    rotate_left
    · (intro w hSw; (try dsimp only at hSw); (first | (go_simp; done) | (go_simp; with_reducible rfl)))
    try simp only [Act.put, List.setIfInBounds_toArray, List.set_cons_zero, List.set_cons_succ]
    refine wpAnyH_ready (rs := [16]) (by kernel_rfl) (by simp) ?_
    refine AllReadyH.cons rfl (fun K hK => ?_) AllReadyH.nil
    go_simp
    refine hK.out _ _ ((((KeepO.set (show KeepO w (.int .i64 k) (.slice D nd cd) (.slice A nn ca) (.slice B nb cb) _ from by assumption) _ _).set _ _).set _ _).set _ _) (fun hHeld => ?_)
    clear hK K hHeld
    refine wpAnyH_done (by kernel_rfl) ?_ _
    have HXE := Aside.mk he3
    clear hk0
    go_wp2_with fail
    refine bodyPost_ret (v := .agg #[.int .i64 k, .slice A1 l1 c1, .slice A2 l2 c2, .slice A3 m c3]) (by simp [results, Tryz.results13, go_sem, hk3]) rfl ⟨_, rfl, ⟨_, _, _, rfl, ?_, ?_, ?_⟩, ext_set4 (Aside.out (And.left hk3)) (Nat.le_succ _) _ _ _ _⟩
    · exact ((HR1.out.ext IntC.ext (Ext.trans HE2.out HE3.out)).set4 (by simp) _ _ _ _ (fun _ _ _ _ _ _ h => h)).mono (by simp; omega)
    · have hz : w.heap.size + 1 < w1.heap.size := by have := HE1.out.size; simp at this; omega
      exact ((HR2.out.ext (RatO.ext _) (Ext.trans (Ext.refl _) HE3.out)).set4 (Nat.lt_of_lt_of_le hz (by first | exact Nat.le_refl _ | simp)) _ _ _ _ (fun w p hp u c a h => RatO.set hp u c a h)).mono (by first | omega | (simp; omega)) |>.monoR (fun _ _ h => h.mono (by first | omega | (simp; omega)))
    · exact (HR3.out.set4 (by omega) _ _ _ _ (fun _ _ _ _ _ _ h => h)).mono (by omega)
end Go.Proofs.YtcbaipnphepbeaaGreatDoor
