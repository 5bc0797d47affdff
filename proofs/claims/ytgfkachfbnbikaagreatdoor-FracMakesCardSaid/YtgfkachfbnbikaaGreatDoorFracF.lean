/- Contracts of package frac: IsBit, least, made. -/
import Derived.Test.YtgfkachfbnbikaaGreatDoorFracE
namespace Go.Proofs.YtgfkachfbnbikaaGreatDoor
open Go.RowKit

/-- Is a bit valid? -/
def okb (f : Int) (on : Bool) : Bool := f == 0 || (f == 4 || f == 11) && !on

theorem isbit_calls {w : World} {f : Int} {on : Bool} :
    Calls Tryz.prog 50 #[.agg #[.int .i64 f, .bool on]] w fun e w' => e = .returned (.bool (okb f on)) ∧ Ext w w' := by
  unfold okb
  cases h0 : (f == 0)
  · cases hif : (f == 4 || f == 11)
    · go_enter Tryz.func50, Tryz.ntmps50
      go_wp2_with (go_at_call 108; refine isfault_calls.mono ?_; rw [hif]; rintro e w1 ⟨rfl, rfl⟩)
      go_ret
      exact ⟨by simp, (Ext.refl w).alloc _⟩
    · cases on
      · go_enter Tryz.func50, Tryz.ntmps50
        go_wp2_with (go_at_call 108; refine isfault_calls.mono ?_; rw [hif]; rintro e w1 ⟨rfl, rfl⟩)
        go_ret
        exact ⟨by simp, (Ext.refl w).alloc _⟩
      · go_enter Tryz.func50, Tryz.ntmps50
        go_wp2_with (go_at_call 108; refine isfault_calls.mono ?_; rw [hif]; rintro e w1 ⟨rfl, rfl⟩)
        go_ret
        exact ⟨by simp, (Ext.refl w).alloc _⟩
  · go_enter Tryz.func50, Tryz.ntmps50
    go_wp2
    go_ret
    exact ⟨by simp, (Ext.refl w).alloc _⟩

/-- The least fault of two, or 0. -/
def leastq (a b : Int) : Int := if a = 0 ∨ b ≠ 0 ∧ b < a then b else a

set_option maxHeartbeats 400000 in
theorem least_calls {w : World} {a b : Int} {t : TypeId} :
    Calls Tryz.prog 146 #[.slice (some ⟨w.heap.size, 0, none⟩) 2 2] (w.alloc (.cells #[.int .i64 a, .int .i64 b] t)) fun e w' => e = .returned (.int .i64 (leastq a b)) ∧ Ext w w' := by
  have hc0 : (w.alloc (.cells #[.int .i64 a, .int .i64 b] t)).cell? ⟨w.heap.size, 0, none⟩ = some (.int .i64 a) := cell_new rfl rfl
  have hc1 : (w.alloc (.cells #[.int .i64 a, .int .i64 b] t)).cell? ⟨w.heap.size, 1, none⟩ = some (.int .i64 b) := cell_new rfl rfl
  have HE : Aside (Ext w (w.alloc (.cells #[.int .i64 a, .int .i64 b] t))) := ⟨(Ext.refl w).alloc _⟩
  generalize w.alloc (.cells #[.int .i64 a, .int .i64 b] t) = W at *
  generalize w.heap.size = g at *
  go_enter Tryz.func146, Tryz.ntmps146
  go_wp2
  go_loop [3, 8] (fun o i => (o = .int .i64 0 ∧ i = .int .i64 0) ∨ (o = .int .i64 a ∧ i = .int .i64 1) ∨ (o = .int .i64 (leastq a b) ∧ i = .int .i64 2)) (fun _ i => 2 - (intOf i).toNat)
  case atStart => exact .inl ⟨rfl, rfl⟩
  case round =>
    rcases hrel with ⟨rfl, rfl⟩ | ⟨rfl, rfl⟩ | ⟨rfl, rfl⟩
    · by_cases ha : a = 0
      · subst ha
        go_wp2
        go_round
        case rel => exact .inr (.inl ⟨rfl, rfl⟩)
        case measure => simp [intOf]
      · have ha0 : (a == 0) = false := by simp [ha]
        have ha1 : (a != 0) = true := by simp [ha]
        clear ha
        go_wp2
        go_round
        case rel => exact .inr (.inl ⟨rfl, rfl⟩)
        case measure => simp [intOf]
    · by_cases hb : b = 0
      · subst hb
        have HL : Aside (leastq a 0 = a) := ⟨by unfold leastq; by_cases h : a = 0 <;> simp [h]⟩
        go_wp2
        go_round
        case rel => exact .inr (.inr ⟨by rw [HL.out], rfl⟩)
        case measure => simp [intOf]
      · have hb0 : (b == 0) = false := by simp [hb]
        have hb1 : (b != 0) = true := by simp [hb]
        by_cases ha : a = 0
        · subst ha
          have HL : Aside (leastq 0 b = b) := ⟨by simp [leastq]⟩
          clear hb
          go_wp2
          go_round
          case rel => exact .inr (.inr ⟨by rw [HL.out], rfl⟩)
          case measure => simp [intOf]
        · have ha0 : (a == 0) = false := by simp [ha]
          by_cases hlt : b < a
          · have HL : Aside (leastq a b = b) := ⟨by simp [leastq, ha, hb, hlt]⟩
            have hd : decide (b < a) = true := by simp [hlt]
            clear hb ha hlt
            go_wp2
            go_round
            case rel => exact .inr (.inr ⟨by rw [HL.out], rfl⟩)
            case measure => simp [intOf]
          · have HL : Aside (leastq a b = a) := ⟨by simp [leastq, ha, hb, hlt]⟩
            have hd : decide (b < a) = false := by simp; omega
            clear hb ha hlt
            go_wp2
            go_round
            case rel => exact .inr (.inr ⟨by rw [HL.out], rfl⟩)
            case measure => simp [intOf]
    · go_wp2
      go_ret
      exact ⟨rfl, HE.out⟩

/-- The result of a function of two Rats that asks for valid ones. -/
def madeq (a b res : Rq) : Rq × Int := if okq a && okq b then (if leastq a.f b.f = 0 then res else fq (leastq a.f b.f), 0) else (fq 0, 5)

abbrev KeepM (w : World) (x0 x1 x2 x3 y0 y1 y2 y3 : Value) (w' : World) : Prop :=
  Aside (Ext w w') ∧ (w'.cell? ⟨w.heap.size, 0, none⟩ = some x0 ∧ w'.cell? ⟨w.heap.size, 1, none⟩ = some x1 ∧ w'.cell? ⟨w.heap.size, 2, none⟩ = some x2 ∧ w'.cell? ⟨w.heap.size, 3, none⟩ = some x3) ∧
    (w'.cell? ⟨w.heap.size + 1, 0, none⟩ = some y0 ∧ w'.cell? ⟨w.heap.size + 1, 1, none⟩ = some y1 ∧ w'.cell? ⟨w.heap.size + 1, 2, none⟩ = some y2 ∧ w'.cell? ⟨w.heap.size + 1, 3, none⟩ = some y3) ∧
    (Fits w' ⟨w.heap.size + 2, 0, none⟩ ∧ Fits w' ⟨w.heap.size + 2, 1, none⟩ ∧ Fits w' ⟨w.heap.size + 2, 2, none⟩ ∧ Fits w' ⟨w.heap.size + 2, 3, none⟩)
theorem KeepM.ext {w w1 w2 : World} {x0 x1 x2 x3 y0 y1 y2 y3 : Value} (e : Ext w1 w2) (h : KeepM w x0 x1 x2 x3 y0 y1 y2 y3 w1) : KeepM w x0 x1 x2 x3 y0 y1 y2 y3 w2 :=
  ⟨⟨h.1.out.trans e⟩, ⟨e.cell h.2.1.1, e.cell h.2.1.2.1, e.cell h.2.1.2.2.1, e.cell h.2.1.2.2.2⟩, ⟨e.cell h.2.2.1.1, e.cell h.2.2.1.2.1, e.cell h.2.2.1.2.2.1, e.cell h.2.2.1.2.2.2⟩, ⟨h.2.2.2.1.ext e, h.2.2.2.2.1.ext e, h.2.2.2.2.2.1.ext e, h.2.2.2.2.2.2.ext e⟩⟩
theorem KeepM.init (w : World) (x0 x1 x2 x3 y0 y1 y2 y3 z0 z1 z2 z3 : Value) (t t' t'' : TypeId) : KeepM w x0 x1 x2 x3 y0 y1 y2 y3 (((w.alloc (.cells #[x0, x1, x2, x3] t)).alloc (.cells #[y0, y1, y2, y3] t')).alloc (.cells #[z0, z1, z2, z3] t'')) :=
  ⟨⟨(((Ext.refl w).alloc _).alloc _).alloc _⟩, ⟨cell_old (cell_old (cell_new rfl rfl)), cell_old (cell_old (cell_new rfl rfl)), cell_old (cell_old (cell_new rfl rfl)), cell_old (cell_old (cell_new rfl rfl))⟩,
    ⟨cell_old (cell_new (by simp) rfl), cell_old (cell_new (by simp) rfl), cell_old (cell_new (by simp) rfl), cell_old (cell_new (by simp) rfl)⟩,
    ⟨fits_new (v := z0) (by simp) rfl, fits_new (v := z1) (by simp) rfl, fits_new (v := z2) (by simp) rfl, fits_new (v := z3) (by simp) rfl⟩⟩
theorem KeepM.set {w w1 : World} {x0 x1 x2 x3 y0 y1 y2 y3 : Value} (h : KeepM w x0 x1 x2 x3 y0 y1 y2 y3 w1) (j : Nat) (v : Value) : KeepM w x0 x1 x2 x3 y0 y1 y2 y3 (w1.setCell ⟨w.heap.size + 2, j, none⟩ v) :=
  ⟨⟨h.1.out.set (by show w.heap.size ≤ w.heap.size + 2; omega) v⟩, ⟨cell_other h.2.1.1 (by omega), cell_other h.2.1.2.1 (by omega), cell_other h.2.1.2.2.1 (by omega), cell_other h.2.1.2.2.2 (by omega)⟩, ⟨cell_other h.2.2.1.1 (by omega), cell_other h.2.2.1.2.1 (by omega), cell_other h.2.2.1.2.2.1 (by omega), cell_other h.2.2.1.2.2.2 (by omega)⟩,
    ⟨h.2.2.2.1.set _ _, h.2.2.2.2.1.set _ _, h.2.2.2.2.2.1.set _ _, h.2.2.2.2.2.2.set _ _⟩⟩

theorem RR.form {w : World} {v : Value} {q : Rq} (h : RR w v q) : ∃ A c B d, v = .agg #[.int .i64 q.f, .bool q.neg, .slice A q.num.length c, .slice B q.den.length d] := by
  obtain ⟨x, y, rfl, ⟨A, c, rfl, _⟩, ⟨B, d, rfl, _⟩⟩ := h
  exact ⟨A, c, B, d, rfl⟩

theorem israt_b {w : World} {v : Value} {q : Rq} {b : Bool} (h : RR w v q) (hb : okq q = b) :
    Calls Tryz.prog 49 #[v] w fun e w' => e = .returned (.bool b) ∧ Ext w w' := by subst hb; exact israt_calls h

set_option maxRecDepth 10000 in
set_option maxHeartbeats 1000000 in
theorem made_calls {w : World} {F : FuncId} {u v : Value} {a b res : Rq} (hC : ∀ args w, Sem.run Tryz.prog (callFunc F args) w = .ok (.enter F args) w) (ha : RR w u a) (hb : RR w v b)
    (hF : okq a = true → okq b = true → leastq a.f b.f = 0 → ∀ w', Ext w w' → Calls Tryz.prog F #[u, v] w' fun e w'' => ∃ r, e = .returned r ∧ RO w'.heap.size w'' r res ∧ Ext w' w'') :
    Calls Tryz.prog 94 #[u, v, .func (.func F) #[] #[]] w fun e w' => ∃ r, e = .returned (.tuple #[r, .int .i64 (madeq a b res).2]) ∧ RO w.heap.size w' r (madeq a b res).1 ∧ Ext w w' := by
  have HA := Aside.mk ha
  have HB := Aside.mk hb
  have HF := Aside.mk hF
  obtain ⟨A, ca, B, cb, rfl⟩ := ha.form
  obtain ⟨C, cc, D, cd, rfl⟩ := hb.form
  clear ha hb hF
  obtain ⟨fa, na, xa, ya⟩ := a
  obtain ⟨fb, nb, xb, yb⟩ := b
  dsimp only at *
  generalize xa.length = lxa at *
  generalize ya.length = lya at *
  generalize xb.length = lxb at *
  generalize yb.length = lyb at *
  have hk0 := KeepM.init w (.int .i64 fa) (.bool na) (.slice A lxa ca) (.slice B lya cb) (.int .i64 fb) (.bool nb) (.slice C lxb cc) (.slice D lyb cd) (.int .i64 0) (.bool false) (.slice none 0 0) (.slice none 0 0) 26 26 26
  cases hoa : okq ⟨fa, na, xa, ya⟩
  · have HOA := Aside.mk hoa
    have HM : Aside (madeq ⟨fa, na, xa, ya⟩ ⟨fb, nb, xb, yb⟩ res = (fq 0, 5)) := ⟨by simp [madeq, hoa]⟩
    rw [HM.out]
    clear hoa
    go_enter Tryz.func94, Tryz.ntmps94
    go_wp2_with (go_at_call 49; refine (israt_b (HA.out.ext hk0.1.out) HOA.out).mono ?_; rintro e w1 ⟨rfl, he⟩; have hk1 := KeepM.ext he hk0; clear hk0 he)
    have HK := Aside.mk hk1
    refine bodyPost_ret (v := .tuple #[.agg #[.int .i64 0, .bool false, .slice none 0 0, .slice none 0 0], .int .i64 5]) (by simp [results, Tryz.results94, go_sem, hk1]) rfl ⟨_, rfl, RO.fq _ _ _, ext_set4 HK.out.1.out (by omega) _ _ _ _⟩
  · cases hob : okq ⟨fb, nb, xb, yb⟩
    · have HOA := Aside.mk hoa
      have HOB := Aside.mk hob
      have HM : Aside (madeq ⟨fa, na, xa, ya⟩ ⟨fb, nb, xb, yb⟩ res = (fq 0, 5)) := ⟨by simp [madeq, hob]⟩
      rw [HM.out]
      clear hoa hob
      go_enter Tryz.func94, Tryz.ntmps94
      go_wp2_with (first | (go_at_call 49; refine (israt_b (HA.out.ext hk0.1.out) HOA.out).mono ?_; rintro e w1 ⟨rfl, he⟩; have hk1 := KeepM.ext he hk0; clear hk0 he) | (go_at_call 49; refine (israt_b (HB.out.ext hk1.1.out) HOB.out).mono ?_; rintro e w2 ⟨rfl, he⟩; have hk2 := KeepM.ext he hk1; clear hk1 he))
      have HK := Aside.mk hk2
      refine bodyPost_ret (v := .tuple #[.agg #[.int .i64 0, .bool false, .slice none 0 0, .slice none 0 0], .int .i64 5]) (by simp [results, Tryz.results94, go_sem, hk2]) rfl ⟨_, rfl, RO.fq _ _ _, ext_set4 HK.out.1.out (by omega) _ _ _ _⟩
    · have HOA := Aside.mk hoa
      have HOB := Aside.mk hob
      obtain ⟨l, hl⟩ : ∃ l, leastq fa fb = l := ⟨_, rfl⟩
      have HL := Aside.mk hl
      by_cases hz : l = 0
      · subst hz
        have HM : Aside (madeq ⟨fa, na, xa, ya⟩ ⟨fb, nb, xb, yb⟩ res = (res, 0)) := ⟨by simp [madeq, hoa, hob, hl]⟩
        rw [HM.out]
        clear hoa hob hl
        go_enter Tryz.func94, Tryz.ntmps94
        go_wp2_with (first | (go_at_call 49; refine (israt_b (HA.out.ext hk0.1.out) HOA.out).mono ?_; rintro e w1 ⟨rfl, he⟩; have hk1 := KeepM.ext he hk0; clear hk0 he) | (go_at_call 49; refine (israt_b (HB.out.ext hk1.1.out) HOB.out).mono ?_; rintro e w2 ⟨rfl, he⟩; have hk2 := KeepM.ext he hk1; clear hk1 he) | (go_at_call 146; refine (least_calls (w := w2)).mono ?_; rw [HL.out]; rintro e w3 ⟨rfl, he⟩; have hk3 := KeepM.ext he hk2; clear hk2 he))
        refine (HF.out HOA.out HOB.out HL.out w3 hk3.1.out).mono ?_
        rintro e w4 ⟨r, rfl, hr, he⟩
        have hk4 := KeepM.ext he hk3
        have hzz := World.block_lt_of_cell? _ _ hk3.2.2.2.1.1
        have HZ := Aside.mk hzz
        have HR := Aside.mk hr
        obtain ⟨A3, c3, A4, c4, rfl⟩ := hr.form
        clear hk3 hr he hzz
        go_wp2
        have HK := Aside.mk hk4
        refine bodyPost_ret (v := .tuple #[.agg #[.int .i64 res.f, .bool res.neg, .slice A3 res.num.length c3, .slice A4 res.den.length c4], .int .i64 0]) (by simp [results, Tryz.results94, go_sem, hk4]) rfl ⟨_, rfl, ?_, ?_⟩
        · exact (HR.out.set4 HZ.out _ _ _ _).mono (by have h : w.heap.size + 2 < w3.heap.size := HZ.out; omega)
        · exact ext_set4 HK.out.1.out (by omega) _ _ _ _
      · have HM : Aside (madeq ⟨fa, na, xa, ya⟩ ⟨fb, nb, xb, yb⟩ res = (fq l, 0)) := ⟨by simp [madeq, hoa, hob, hl, hz]⟩
        have hl0 : (l == 0) = false := by simp [hz]
        have hl1 : (l != 0) = true := by simp [hz]
        rw [HM.out]
        clear hoa hob hl hz
        go_enter Tryz.func94, Tryz.ntmps94
        go_wp2_with (first | (go_at_call 49; refine (israt_b (HA.out.ext hk0.1.out) HOA.out).mono ?_; rintro e w1 ⟨rfl, he⟩; have hk1 := KeepM.ext he hk0; clear hk0 he) | (go_at_call 49; refine (israt_b (HB.out.ext hk1.1.out) HOB.out).mono ?_; rintro e w2 ⟨rfl, he⟩; have hk2 := KeepM.ext he hk1; clear hk1 he) | (go_at_call 146; refine (least_calls (w := w2)).mono ?_; rw [HL.out]; rintro e w3 ⟨rfl, he⟩; have hk3 := KeepM.ext he hk2; clear hk2 he) | (go_at_call 79; refine fault_calls.mono ?_; rintro e w4 ⟨rfl, he⟩; have hk4 := KeepM.ext he hk3; clear hk3 he))
        have HK := Aside.mk hk4
        refine bodyPost_ret (v := .tuple #[.agg #[.int .i64 l, .bool false, .slice none 0 0, .slice none 0 0], .int .i64 0]) (by simp [results, Tryz.results94, go_sem, hk4]) rfl ⟨_, rfl, RO.fq _ _ _, ?_⟩
        exact ext_set4 HK.out.1.out (by omega) _ _ _ _
end Go.Proofs.YtgfkachfbnbikaaGreatDoor
