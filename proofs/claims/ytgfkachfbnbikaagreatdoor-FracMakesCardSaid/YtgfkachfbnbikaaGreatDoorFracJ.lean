/- Contracts of package frac: Add, Mul, Div. -/
import Derived.Test.YtgfkachfbnbikaaGreatDoorFracH
namespace Go.Proofs.YtgfkachfbnbikaaGreatDoor
open Go.RowKit

theorem okq_ds {q : Rq} (h : okq q = true) (hf : q.f = 0) (hd : Ds q.num ∧ Ds q.den) : IsNum q (val q.num) (val q.den) := okq_num rfl rfl hd.1 hd.2 h hf
theorem RR.num {w : World} {v : Value} {q : Rq} {a b : Nat} (h : RR w v q) (k : IsNum q a b) : RR w v ⟨q.f, q.neg, dig a, dig b⟩ := by
  have e : (⟨q.f, q.neg, dig a, dig b⟩ : Rq) = q := by cases q; simp only [Rq.mk.injEq, true_and]; exact ⟨k.num.symm, k.den.symm⟩
  rw [e]; exact h


/-- What is known of a callee that makes the Rat of two numbers. -/
structure MadeBy (F : FuncId) (a b res : Rq) : Prop where
  runs : ∀ args w, Sem.run Tryz.prog (callFunc F args) w = .ok (.enter F args) w
  calls : ∀ w u v, RR w u a → RR w v b → okq a = true → okq b = true → leastq a.f b.f = 0 → Calls Tryz.prog F #[u, v] w fun e w' => ∃ r, e = .returned r ∧ RO w.heap.size w' r res ∧ Ext w w'
theorem MadeBy.mk_ {F : FuncId} {a b res : Rq} (h : MadeBy F a b res) {w0 w : World} {u v : Value} (ha : RR w u a) (hb : RR w v b) (_ : Ext w0 w) {m : Rq × Int} (hm : madeq a b res = m) :
    Calls Tryz.prog 94 #[u, v, .func (.func F) #[] #[]] w fun e w' => ∃ r, e = .returned (.tuple #[r, .int .i64 m.2]) ∧ RO w.heap.size w' r m.1 ∧ Ext w w' := by
  subst hm
  exact made_calls h.runs ha hb fun h1 h2 h3 w' he => h.calls w' u v (ha.ext he) (hb.ext he) h1 h2 h3

theorem sum_by (a b : Rq) : MadeBy 95 a b (sumq a.neg (val a.num) (val a.den) b.neg (val b.num) (val b.den)) where
  runs := by intro args w; simp [go_sem]
  calls := by
    intro w u v ha hb h1 h2 h3
    obtain ⟨f1, f2⟩ := leastq_zero h3
    have ka := okq_ds h1 f1 ha.ds
    have kb := okq_ds h2 f2 hb.ds
    exact sum_calls (ha.num ka) (hb.num kb) ka.la ka.lb kb.la kb.lb
theorem mul_by (a b : Rq) : MadeBy 99 a b (ratio (a.neg != b.neg) (val a.num * val b.num) (val a.den * val b.den)) where
  runs := by intro args w; simp [go_sem]
  calls := by
    intro w u v ha hb h1 h2 h3
    obtain ⟨f1, f2⟩ := leastq_zero h3
    have ka := okq_ds h1 f1 ha.ds
    have kb := okq_ds h2 f2 hb.ds
    exact mul1_calls (ha.num ka) (hb.num kb) ka.la ka.lb kb.la kb.lb
theorem div_by (a b : Rq) : MadeBy 101 a b (ratio (a.neg != b.neg) (val a.num * val b.den) (val a.den * val b.num)) where
  runs := by intro args w; simp [go_sem]
  calls := by
    intro w u v ha hb h1 h2 h3
    obtain ⟨f1, f2⟩ := leastq_zero h3
    have ka := okq_ds h1 f1 ha.ds
    have kb := okq_ds h2 f2 hb.ds
    exact div1_calls (ha.num ka) (hb.num kb) ka.la ka.lb kb.la kb.lb

set_option maxRecDepth 10000 in
set_option maxHeartbeats 1000000 in
theorem Add2_calls {w : World} {u v : Value} {a b : Rq} (ha : RR w u a) (hb : RR w v b) {m : Rq × Int} (hm : madeq a b (sumq a.neg (val a.num) (val a.den) b.neg (val b.num) (val b.den)) = m) :
    Calls Tryz.prog 35 #[u, v] w fun e w' => ∃ r, e = .returned (.tuple #[r, .int .i64 m.2]) ∧ RO w.heap.size w' r m.1 ∧ Ext w w' := by
  have HA := Aside.mk ha; have HB := Aside.mk hb; obtain ⟨A, ca, B, cb, rfl⟩ := ha.form; obtain ⟨C, cc, D, cd, rfl⟩ := hb.form; obtain ⟨fa, na, xa, ya⟩ := a; obtain ⟨fb, nb, xb, yb⟩ := b; dsimp only at *; clear ha hb
  have HM := Aside.mk hm
  clear hm
  generalize xa.length = lxa at *; generalize ya.length = lya at *; generalize xb.length = lxb at *; generalize yb.length = lyb at *; have hk0 := KeepM.init w (.int .i64 fa) (.bool na) (.slice A lxa ca) (.slice B lya cb) (.int .i64 fb) (.bool nb) (.slice C lxb cc) (.slice D lyb cd) (.int .i64 0) (.bool false) (.slice none 0 0) (.slice none 0 0) 26 26 26
  go_enter Tryz.func35, Tryz.ntmps35
  go_wp2_with (go_at_call 94; refine ((sum_by ⟨fa, na, xa, ya⟩ ⟨fb, nb, xb, yb⟩).mk_ (HA.out.ext hk0.1.out) (HB.out.ext hk0.1.out) hk0.1.out HM.out).mono ?_; rintro e w3 ⟨r, rfl, hr, he⟩; have hz : w.heap.size + 2 < _ := World.block_lt_of_cell? _ _ hk0.2.2.2.1.1; have hk3 := KeepM.ext he hk0; have HR3 := Aside.mk hr; have HZ := Aside.mk hz; obtain ⟨A3, c3, B3, d3, rfl⟩ := hr.form; clear hk0 hr he hz)
  have HK := Aside.mk hk3
  refine bodyPost_ret (v := .tuple #[.agg #[.int .i64 m.1.f, .bool m.1.neg, .slice A3 m.1.num.length c3, .slice B3 m.1.den.length d3], .int .i64 m.2]) (by simp [results, Tryz.results35, go_sem, hk3]) rfl ⟨_, rfl, (HR3.out.set4 HZ.out _ _ _ _).mono (by have := HZ.out; omega), ext_set4 HK.out.1.out (by omega) _ _ _ _⟩
set_option maxRecDepth 10000 in
set_option maxHeartbeats 1000000 in
theorem Mul2_calls {w : World} {u v : Value} {a b : Rq} (ha : RR w u a) (hb : RR w v b) {m : Rq × Int} (hm : madeq a b (ratio (a.neg != b.neg) (val a.num * val b.num) (val a.den * val b.den)) = m) :
    Calls Tryz.prog 39 #[u, v] w fun e w' => ∃ r, e = .returned (.tuple #[r, .int .i64 m.2]) ∧ RO w.heap.size w' r m.1 ∧ Ext w w' := by
  have HA := Aside.mk ha; have HB := Aside.mk hb; obtain ⟨A, ca, B, cb, rfl⟩ := ha.form; obtain ⟨C, cc, D, cd, rfl⟩ := hb.form; obtain ⟨fa, na, xa, ya⟩ := a; obtain ⟨fb, nb, xb, yb⟩ := b; dsimp only at *; clear ha hb
  have HM := Aside.mk hm
  clear hm
  generalize xa.length = lxa at *; generalize ya.length = lya at *; generalize xb.length = lxb at *; generalize yb.length = lyb at *; have hk0 := KeepM.init w (.int .i64 fa) (.bool na) (.slice A lxa ca) (.slice B lya cb) (.int .i64 fb) (.bool nb) (.slice C lxb cc) (.slice D lyb cd) (.int .i64 0) (.bool false) (.slice none 0 0) (.slice none 0 0) 26 26 26
  go_enter Tryz.func39, Tryz.ntmps39
  go_wp2_with (go_at_call 94; refine ((mul_by ⟨fa, na, xa, ya⟩ ⟨fb, nb, xb, yb⟩).mk_ (HA.out.ext hk0.1.out) (HB.out.ext hk0.1.out) hk0.1.out HM.out).mono ?_; rintro e w3 ⟨r, rfl, hr, he⟩; have hz : w.heap.size + 2 < _ := World.block_lt_of_cell? _ _ hk0.2.2.2.1.1; have hk3 := KeepM.ext he hk0; have HR3 := Aside.mk hr; have HZ := Aside.mk hz; obtain ⟨A3, c3, B3, d3, rfl⟩ := hr.form; clear hk0 hr he hz)
  have HK := Aside.mk hk3
  refine bodyPost_ret (v := .tuple #[.agg #[.int .i64 m.1.f, .bool m.1.neg, .slice A3 m.1.num.length c3, .slice B3 m.1.den.length d3], .int .i64 m.2]) (by simp [results, Tryz.results39, go_sem, hk3]) rfl ⟨_, rfl, (HR3.out.set4 HZ.out _ _ _ _).mono (by have := HZ.out; omega), ext_set4 HK.out.1.out (by omega) _ _ _ _⟩
set_option maxRecDepth 10000 in
set_option maxHeartbeats 1000000 in
theorem Div2_calls {w : World} {u v : Value} {a b : Rq} (ha : RR w u a) (hb : RR w v b) {m : Rq × Int} (hm : madeq a b (ratio (a.neg != b.neg) (val a.num * val b.den) (val a.den * val b.num)) = m) :
    Calls Tryz.prog 40 #[u, v] w fun e w' => ∃ r, e = .returned (.tuple #[r, .int .i64 m.2]) ∧ RO w.heap.size w' r m.1 ∧ Ext w w' := by
  have HA := Aside.mk ha; have HB := Aside.mk hb; obtain ⟨A, ca, B, cb, rfl⟩ := ha.form; obtain ⟨C, cc, D, cd, rfl⟩ := hb.form; obtain ⟨fa, na, xa, ya⟩ := a; obtain ⟨fb, nb, xb, yb⟩ := b; dsimp only at *; clear ha hb
  have HM := Aside.mk hm
  clear hm
  generalize xa.length = lxa at *; generalize ya.length = lya at *; generalize xb.length = lxb at *; generalize yb.length = lyb at *; have hk0 := KeepM.init w (.int .i64 fa) (.bool na) (.slice A lxa ca) (.slice B lya cb) (.int .i64 fb) (.bool nb) (.slice C lxb cc) (.slice D lyb cd) (.int .i64 0) (.bool false) (.slice none 0 0) (.slice none 0 0) 26 26 26
  go_enter Tryz.func40, Tryz.ntmps40
  go_wp2_with (go_at_call 94; refine ((div_by ⟨fa, na, xa, ya⟩ ⟨fb, nb, xb, yb⟩).mk_ (HA.out.ext hk0.1.out) (HB.out.ext hk0.1.out) hk0.1.out HM.out).mono ?_; rintro e w3 ⟨r, rfl, hr, he⟩; have hz : w.heap.size + 2 < _ := World.block_lt_of_cell? _ _ hk0.2.2.2.1.1; have hk3 := KeepM.ext he hk0; have HR3 := Aside.mk hr; have HZ := Aside.mk hz; obtain ⟨A3, c3, B3, d3, rfl⟩ := hr.form; clear hk0 hr he hz)
  have HK := Aside.mk hk3
  refine bodyPost_ret (v := .tuple #[.agg #[.int .i64 m.1.f, .bool m.1.neg, .slice A3 m.1.num.length c3, .slice B3 m.1.den.length d3], .int .i64 m.2]) (by simp [results, Tryz.results40, go_sem, hk3]) rfl ⟨_, rfl, (HR3.out.set4 HZ.out _ _ _ _).mono (by have := HZ.out; omega), ext_set4 HK.out.1.out (by omega) _ _ _ _⟩
end Go.Proofs.YtgfkachfbnbikaaGreatDoor
