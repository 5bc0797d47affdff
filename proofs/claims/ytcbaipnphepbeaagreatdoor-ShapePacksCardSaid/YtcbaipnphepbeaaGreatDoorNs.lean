/- The statement 'x, y := f(a), f(b)' of types: one invariant, each operation once. From the given statements to the contracts: what the listed variables hold, the arguments behind the call, the wrap. An argument that is a Rat. An argument that is a bit. From the given statements of layer 3 to the contracts: the listed variables, arguments that are types. -/
import Derived.Test.YtcbaipnphepbeaaGreatDoorNg
import Derived.Test.YtcbaipnphepbeaaGreatDoorNr
import Derived.Test.YtcbaipnphepbeaaGreatDoorRows
import Derived.Test.YtcbaipnphepbeaaGreatDoorNe
import Derived.Test.YtcbaipnphepbeaaGreatDoorNf
import Derived.ProofKit
import Derived.LaidMore
import Derived.OpenShut
import Derived.Stop.Joined
import Derived.HandedShaped
import Derived.Shelf.Vars
import Derived.Deep.Slices
import Derived.Lay
namespace Go.Proofs.YtcbaipnphepbeaaGreatDoor
open Go.RowKit

abbrev set2 (w : World) (g : Nat) (v0 v1 : Value) : World := (w.setCell ⟨g, 0, none⟩ v0).setCell ⟨g, 1, none⟩ v1
abbrev Two (w : World) (g : Nat) (x0 x1 : Value) : Prop := w.cell? ⟨g, 0, none⟩ = some x0 ∧ w.cell? ⟨g, 1, none⟩ = some x1
theorem Two.ext {a b : World} (e : Ext a b) {g : Nat} {x0 x1 : Value} (h : Two a g x0 x1) : Two b g x0 x1 := ⟨e.cell h.1, e.cell h.2⟩
theorem Two.two {w : World} {g g' : Nat} {x0 x1 : Value} (h : Two w g x0 x1) (hne : g' ≠ g) (v0 v1 : Value) : Two (set2 w g' v0 v1) g x0 x1 :=
  ⟨cell_other (cell_other h.1 hne) hne, cell_other (cell_other h.2 hne) hne⟩
theorem set2_same {w : World} {g : Nat} {y0 y1 : Value} (h : Two w g y0 y1) (v0 v1 : Value) : Two (set2 w g v0 v1) g v0 v1 :=
  ⟨off_other (cell_same h.1) (by decide), cell_same (off_other h.2 (by decide))⟩
def FitT (w : World) (g : Nat) : Prop := ∃ x0 x1, Two w g x0 x1 ∧ w.frozen? ⟨g, 0, none⟩ = false ∧ w.frozen? ⟨g, 1, none⟩ = false
theorem FitT.lt {w : World} {g : Nat} (h : FitT w g) : g < w.heap.size := let ⟨_, _, h, _⟩ := h; World.block_lt_of_cell? w _ h.1
theorem FitT.ext {a b : World} (e : Ext a b) {g : Nat} (h : FitT a g) : FitT b g := by
  have hg := h.lt
  obtain ⟨x0, x1, h, f0, f1⟩ := h
  exact ⟨x0, x1, h.ext e, (e.frees g 0 hg).trans f0, (e.frees g 1 hg).trans f1⟩
theorem FitT.two {w : World} {g g' : Nat} (h : FitT w g) (v0 v1 : Value) : FitT (set2 w g' v0 v1) g := by
  obtain ⟨x0, x1, h, f0, f1⟩ := h
  by_cases hne : g' = g
  · subst hne
    exact ⟨v0, v1, set2_same h _ _, by simp [set2, World.frozen?_setCell, f0], by simp [set2, World.frozen?_setCell, f1]⟩
  · exact ⟨x0, x1, h.two hne _ _, by simp [set2, World.frozen?_setCell, f0], by simp [set2, World.frozen?_setCell, f1]⟩
theorem FitT.new (w : World) {x0 x1 : Value} {t : TypeId} : FitT (w.alloc (.cells #[x0, x1] t)) w.heap.size := ⟨x0, x1, ⟨cell_new rfl rfl, cell_new rfl rfl⟩, by simp, by simp⟩
def HoldT (w : World) (g : Nat) (v : Value) : Prop := ∃ x0 x1, v = .agg #[x0, x1] ∧ Two w g x0 x1
theorem HoldT.ext {a b : World} (e : Ext a b) {g : Nat} {v : Value} (h : HoldT a g v) : HoldT b g v := let ⟨x0, x1, h, k⟩ := h; ⟨x0, x1, h, k.ext e⟩
theorem HoldT.two {w : World} {g g' : Nat} {v : Value} (h : HoldT w g v) (hne : g' ≠ g) (v0 v1 : Value) : HoldT (set2 w g' v0 v1) g v :=
  let ⟨x0, x1, h, k⟩ := h; ⟨x0, x1, h, k.two hne _ _⟩
theorem Far.two {b : Nat} {a c : World} (h : Far b a c) {g : Nat} (hg : g < b ∨ a.heap.size ≤ g) (v0 v1 : Value) : Far b a (set2 c g v0 v1) := (h.set hg 0 v0).set hg 1 v1
/-- A type by value, its list the call's own. -/
def TO (b : Nat) (w : World) (v : Value) (q : Int × List Int) : Prop := ∃ x, v = .agg #[.int .i64 q.1, x] ∧ SO b 3 1 IntC w x q.2
theorem TO.far {b : Nat} {w w' : World} {v : Value} {q : Int × List Int} (h : TO b w v q) (hf : Far b w w') : TO b w' v q := by
  obtain ⟨x, e, xs, ⟨h1, h2⟩, h3, h4⟩ := h
  refine ⟨x, e, xs, ⟨h1, ?_⟩, h3, h4.mono fun _ _ h => h⟩
  rcases h2 with h | ⟨g, cap, cur, q1, q2, q3, q4⟩
  · exact .inl h
  · exact .inr ⟨g, cap, cur, q1, q2, by rw [hf.2 g q2 (Array.getElem?_eq_some_iff.1 q3).1]; exact q3, q4⟩
structure LastT (K : World → Prop) (lo : Nat) : Prop where
  ext : ∀ w w', Ext w w' → K w → K w'
  two : ∀ w g v0 v1, lo ≤ g → K w → K (set2 w g v0 v1)
structure InvT (n : Nat) (l : Array Bool) (K : World → Prop) (lo : Nat) (ag : Nat → Value) (q : Nat → Int × List Int) (vl vc vb : Nat → Value) (P : Nat → Nat) (w : World) : Prop where
  keep : K w
  size : lo ≤ w.heap.size
  load : ∀ k, k < n → Lst l (2 * k) → vl k = ag k
  call : ∀ k, k < n → Lst l (2 * k + 1) → ∃ b w1, lo ≤ b ∧ TO b w1 (vc k) (q k) ∧ Far b w1 w ∧ ∀ j, j < n → Lst l (2 * n + j) → P j < b ∨ w1.heap.size ≤ P j
  box : ∀ k, k < n → Lst l (2 * n + k) → vb k = .pointer (some ⟨P k, 0, none⟩) ∧ lo ≤ P k ∧ FitT w (P k)
  ne : ∀ k, k < n → ∀ j, j < n → k ≠ j → Lst l (2 * n + k) → Lst l (2 * n + j) → P k ≠ P j
  full : ∀ k, k < n → Lst l (3 * n + k) → Lst l (2 * n + k) ∧ Lst l (2 * k + 1) ∧ HoldT w (P k) (vc k)
namespace InvT
variable {n : Nat} {l : Array Bool} {K : World → Prop} {lo : Nat} {ag : Nat → Value} {q : Nat → Int × List Int} {vl vc vb : Nat → Value} {P : Nat → Nat} {w : World}
theorem start {m : Nat} (hk : K w) (hs : lo ≤ w.heap.size) : InvT n (Array.replicate m false) K lo ag q vl vc vb P w :=
  ⟨hk, hs, fun _ _ h => h.none.elim, fun _ _ h => h.none.elim, fun _ _ h => h.none.elim, fun _ _ _ _ _ h => h.none.elim, fun _ _ h => h.none.elim⟩
theorem loads (I : InvT n l K lo ag q vl vc vb P w) (k : Nat) (hk : k < n) : InvT n (l.setIfInBounds (2 * k) true) K lo ag q (upd vl k (ag k)) vc vb P w where
  keep := I.keep
  size := I.size
  load j hj h := by
    by_cases e : j = k
    · subst e; exact upd_same _ _ _
    · rw [upd_ne _ _ e]; exact I.load j hj (h.of_set (by omega))
  call j hj h := by
    obtain ⟨b, w1, h0, h1, h2, h3⟩ := I.call j hj (h.of_set (by omega))
    exact ⟨b, w1, h0, h1, h2, fun i hi hl => h3 i hi (hl.of_set (by omega))⟩
  box j hj h := I.box j hj (h.of_set (by omega))
  ne j hj i hi hne h h' := I.ne j hj i hi hne (h.of_set (by omega)) (h'.of_set (by omega))
  full j hj h := by
    obtain ⟨h1, h2, h3⟩ := I.full j hj (h.of_set (by omega))
    exact ⟨getD_set_true h1, getD_set_true h2, h3⟩
theorem calls (I : InvT n l K lo ag q vl vc vb P w) (L : LastT K lo) (k : Nat) (hk : k < n) (h0 : l.getD (2 * k + 1) true = false) {w' : World} {r : Value} (e : Ext w w') (hr : TO w.heap.size w' r (q k)) :
    InvT n (l.setIfInBounds (2 * k + 1) true) K lo ag q vl (upd vc k r) vb P w' where
  keep := L.ext _ _ e I.keep
  size := Nat.le_trans I.size e.size
  load j hj h := I.load j hj (h.of_set (by omega))
  call j hj h := by
    by_cases ej : j = k
    · subst ej
      refine ⟨_, w', I.size, by rw [upd_same]; exact hr, Far.of (Ext.refl _), fun i hi hl => ?_⟩
      exact .inl (I.box i hi (hl.of_set (by omega))).2.2.lt
    · obtain ⟨b, w1, hb, h1, h2, h3⟩ := I.call j hj (h.of_set (by omega))
      exact ⟨b, w1, hb, by rw [upd_ne _ _ ej]; exact h1, h2.ext e, fun i hi hl => h3 i hi (hl.of_set (by omega))⟩
  box j hj h := by
    obtain ⟨h1, h2, h3⟩ := I.box j hj (h.of_set (by omega))
    exact ⟨h1, h2, h3.ext e⟩
  ne j hj i hi hne h h' := I.ne j hj i hi hne (h.of_set (by omega)) (h'.of_set (by omega))
  full j hj h := by
    obtain ⟨h1, h2, h3⟩ := I.full j hj (h.of_set (by omega))
    have ej : j ≠ k := fun ej => by subst ej; exact h2.not h0
    exact ⟨getD_set_true h1, getD_set_true h2, by rw [upd_ne _ _ ej]; exact h3.ext e⟩
theorem allocs (I : InvT n l K lo ag q vl vc vb P w) (L : LastT K lo) (k : Nat) (hk : k < n) (h0 : l.getD (2 * n + k) true = false) :
    InvT n (l.setIfInBounds (2 * n + k) true) K lo ag q vl vc (upd vb k (.pointer (some ⟨w.heap.size, 0, none⟩))) (upd P k w.heap.size) (w.alloc (.cells #[.int .i64 0, .slice none 0 0] 25)) where
  keep := L.ext _ _ ((Ext.refl w).alloc _) I.keep
  size := Nat.le_trans I.size ((Ext.refl w).alloc _).size
  load j hj h := I.load j hj (h.of_set (by omega))
  call j hj h := by
    obtain ⟨b, w1, hb, h1, h2, h3⟩ := I.call j hj (h.of_set (by omega))
    refine ⟨b, w1, hb, h1, h2.alloc _, fun i hi hl => ?_⟩
    by_cases e : i = k
    · subst e; rw [upd_same]; exact .inr h2.1
    · rw [upd_ne _ _ e]; exact h3 i hi (hl.of_set (by omega))
  box j hj h := by
    by_cases e : j = k
    · subst e; rw [upd_same, upd_same]; exact ⟨rfl, I.size, FitT.new w⟩
    · rw [upd_ne _ _ e, upd_ne _ _ e]
      obtain ⟨h1, h2, h3⟩ := I.box j hj (h.of_set (by omega))
      exact ⟨h1, h2, h3.ext ((Ext.refl w).alloc _)⟩
  ne j hj i hi hne h h' := by
    by_cases e : j = k
    · subst e
      rw [upd_same, upd_ne _ _ (fun e => hne e.symm)]
      have := (I.box i hi (h'.of_set (by omega))).2.2.lt
      omega
    · rw [upd_ne _ _ e]
      by_cases e' : i = k
      · subst e'
        rw [upd_same]
        have := (I.box j hj (h.of_set (by omega))).2.2.lt
        omega
      · rw [upd_ne _ _ e']
        exact I.ne j hj i hi hne (h.of_set (by omega)) (h'.of_set (by omega))
  full j hj h := by
    obtain ⟨h1, h2, h3⟩ := I.full j hj (h.of_set (by omega))
    have e : j ≠ k := fun e => by subst e; exact h1.not h0
    exact ⟨getD_set_true h1, getD_set_true h2, by rw [upd_ne _ _ e]; exact h3.ext ((Ext.refl w).alloc _)⟩
theorem stores (I : InvT n l K lo ag q vl vc vb P w) (L : LastT K lo) (k : Nat) (hk : k < n) (hb : Lst l (2 * n + k)) (hc : Lst l (2 * k + 1)) {x0 x1 : Value} (hv : vc k = .agg #[x0, x1]) :
    InvT n (l.setIfInBounds (3 * n + k) true) K lo ag q vl vc vb P (set2 w (P k) x0 x1) where
  keep := L.two _ _ _ _ (I.box k hk hb).2.1 I.keep
  size := by simpa [set2] using I.size
  load j hj h := I.load j hj (h.of_set (by omega))
  call j hj h := by
    obtain ⟨b, w1, h0, h1, h2, h3⟩ := I.call j hj (h.of_set (by omega))
    exact ⟨b, w1, h0, h1, h2.two (h3 k hk hb) _ _, fun i hi hl => h3 i hi (hl.of_set (by omega))⟩
  box j hj h := by
    obtain ⟨h1, h2, h3⟩ := I.box j hj (h.of_set (by omega))
    exact ⟨h1, h2, h3.two _ _⟩
  ne j hj i hi hne h h' := I.ne j hj i hi hne (h.of_set (by omega)) (h'.of_set (by omega))
  full j hj h := by
    by_cases e : j = k
    · subst e
      obtain ⟨y0, y1, hf, _⟩ := (I.box j hj hb).2.2
      exact ⟨getD_set_true hb, getD_set_true hc, x0, x1, hv, set2_same hf _ _⟩
    · have hl := h.of_set (by omega)
      obtain ⟨h1, h2, h3⟩ := I.full j hj hl
      exact ⟨getD_set_true h1, getD_set_true h2, h3.two (I.ne k hk j hj (fun e' => e e'.symm) hb h1) _ _⟩
/-- What holds at the end. -/
theorem done (I : InvT n l K lo ag q vl vc vb P w) (hl : ∀ i, i < 4 * n → Lst l i) :
    K w ∧ (∀ k, k < n → vb k = .pointer (some ⟨P k, 0, none⟩) ∧ lo ≤ P k ∧ HoldT w (P k) (vc k) ∧ TO lo w (vc k) (q k)) := by
  refine ⟨I.keep, fun k hk => ?_⟩
  obtain ⟨h1, h2, _⟩ := I.box k hk (hl _ (by omega))
  obtain ⟨b, w1, hb, h3, h4, _⟩ := I.call k hk (hl _ (by omega))
  obtain ⟨x, e, h⟩ := h3.far h4
  exact ⟨h1, h2, (I.full k hk (hl _ (by omega))).2.2, x, e, h.mono hb⟩
end InvT
theorem HoldT.to {w : World} {g lo : Nat} {v : Value} {q : Int × List Int} (h : HoldT w g v) (hr : TO lo w v q) :
    ∃ A c, v = .agg #[.int .i64 q.1, .slice A q.2.length c] ∧ Two w g (.int .i64 q.1) (.slice A q.2.length c) ∧ TV w (.agg #[.int .i64 q.1, .slice A q.2.length c]) q.1 q.2 := by
  obtain ⟨x0, x1, e, h4⟩ := h
  obtain ⟨x, rfl, hs⟩ := hr
  obtain ⟨A, c, rfl, _⟩ := hs.sv.form
  injection e with e
  simp only [Array.mk.injEq, List.cons.injEq, and_true] at e
  obtain ⟨rfl, rfl⟩ := e
  exact ⟨A, c, rfl, h4, _, rfl, hs.sv.iv⟩
end Go.Proofs.YtcbaipnphepbeaaGreatDoor

namespace Go.Proofs.YtcbaipnphepbeaaGreatDoor
open Go.RowKit Go.ChangeShapes Go.WideShapes Go.ChangeAt

theorem Tryz.own : ownKnob Tryz.prog.godebug = none := by kernel_rfl
theorem Tryz.laidOut : laidOutB Tryz.prog = true := by kernel_rfl

section
variable {H : Type} {enc : TypeId × Value → H}
/-- Arguments read behind the call as they read before. -/
theorem below_all {P : Program} (hl : laidOutB P = true) {W W' : World} (hb : Below W.heap.size W W') : ∀ {ts : List TypeId} {vs : List Value} {ds : List (DataW H)} {ps : List MemPlace},
    (∀ t ∈ ts, P.readableRec t = true ∧ t < P.types.size) → DataW.TrodAll enc P W 0 (fun _ => true) true ts vs ds ps → DataW.TrodAll enc P W' 0 (fun b => decide (b < W.heap.size)) true ts vs ds ps
  | [], [], [], _, _, h => h
  | t :: _, _ :: _, _ :: _, _, ht, ⟨p, q, ⟨n, hn⟩, hs, e⟩ =>
    ⟨p, q, Below.trod hl (ht t List.mem_cons_self).1 (ht t List.mem_cons_self).2 ⟨n, hn⟩ hb (DataW.trod_lt n _ _ _ hn), below_all hl hb (fun t' h' => ht t' (List.mem_cons_of_mem _ h')) hs, e⟩
  | [], _ :: _, _, _, _, h => h.elim
  | [], [], _ :: _, _, _, h => h.elim
  | _ :: _, [], _, _, _, h => h.elim
  | _ :: _, _ :: _, [], _, _, h => h.elim

/-- The wrap: what the row lists, and the world's shape, for the contract. -/
theorem returns_law {a : Assume} {C : Checked} {os : Os} {f : FuncId} {fn : Func} {s : ChangeSpec} {conds : List PathCond} {apart fresh handsOn again : Bool} {X : World → Array Value → Prop}
    (hX : ∀ (w w' : World) (args : Array Value), w.heap = w'.heap → X w args → X w' args)
    (own : ownKnob C.prog.godebug = none) (started : os.Started) (noInit : C.prog.inits.idxOf? f = none) (hfn : C.prog.funcs[f]? = some fn)
    (witness : ∃ (w : World) (tape : Tape) (i : Input), w.os = os ∧ (w.forCall tape i).Shaped C.prog ∧ i.vars = [] ∧ Input.okWide C.prog (w.forCall tape i) .any w.heap.size f i ∧
      ((s.pre enc C.prog fn conds apart (w.forCall tape i).memory i.args ∧ X (w.forCall tape i).memory i.args) ∧ sizedMet enc C.prog fn (OpenSpec.ofChange s) apart (w.forCall tape i).memory i.args) ∧ a.holds C.prog (lone (Frame.enter C.prog f i.args .normal) [] (w.forCall tape i)))
    (contract : ∀ (W : World) (base : Nat) (args : Array Value) (ds gs : List (DataW H)) (before : List MemPlace),
      (∀ (j : Nat) t v, fn.params[j]? = some t → args[j]? = some v → Value.okWide C.prog W .any base t v) →
      DataW.Whole enc C.prog fn.params.toList s.vars apart W args.toList ds gs before →
      X W args → W.ShapedOpen C.prog →
      Calls C.prog f args W fun e W' => ∃ v, e = .returned v ∧ s.post enc C.prog fn apart fresh handsOn again W args v W') :
    ReturnsInHanded a C os f .any (fun w args => (s.pre enc C.prog fn conds apart w args ∧ X w args) ∧ sizedMet enc C.prog fn (OpenSpec.ofChange s) apart w args) (s.post enc C.prog fn apart fresh handsOn again) := by
  refine returnsInHanded_of_calls own started noInit witness ?_
  intro w tape i _ hsh _ hok hpre _
  obtain ⟨_, _, _, fn', hfn', _, _, _, _, hval⟩ := hok
  have e : fn' = fn := Option.some.inj (hfn'.symm.trans hfn)
  subst e
  obtain ⟨⟨⟨ds, gs, before, hw, hc⟩, hx⟩, hz⟩ := hpre
  have hw' := DataW.Whole.of_heap (w' := w.forCall tape i) (by rfl) hw
  refine (contract (w.forCall tape i) w.heap.size i.args ds gs before hval hw' (hX _ _ _ (by rfl) hx) hsh).mono fun e W' ⟨v, he, hp⟩ => ?_
  subst he
  exact ChangeSpec.post_blind hp

/-- What a law is to show of a call that returns true and leaves all as it was. -/
theorem law_post {fn : Func} {s : ChangeSpec} {ts : List TypeId} {W W' : World} {args : Array Value} {ds : List (DataW H)} {before : List MemPlace} (hts : fn.params.toList = ts) (hrt : fn.resultTypes.toList = [4]) (hvars : s.vars = [])
    (hread : ∀ t ∈ ts, Tryz.prog.readableRec t = true ∧ t < Tryz.prog.types.size)
    (hfn : (s.fn H (ds ++ [])).results = [.lit (.bool true)] ∧ (s.fn H (ds ++ [])).args = ds ∧ (s.fn H (ds ++ [])).vars = [])
    (hW : DataW.Whole enc Tryz.prog fn.params.toList s.vars false W args.toList ds [] before) (hA : DataW.TrodAll enc Tryz.prog W 0 (fun _ => true) true ts args.toList ds before) (he : Ext W W') :
    s.post enc Tryz.prog fn false true false false W args (.bool true) W' := by
  refine ⟨ds, [], before, [], before, [], hW, ?_, ?_, ?_, Below.frame he _, fun h => by cases h⟩
  · rw [hfn.1, hrt, show fn.resultTypes.size = 1 from by rw [← Array.length_toList, hrt]; rfl]
    exact trodAll_mk1 (shut_bool Tryz.underlying4 true)
  · rw [hfn.2.1, hts]
    exact below_all Tryz.laidOut he hread hA
  · rw [hvars, hfn.2.2]; rfl
end

theorem gFaults : Tryz.prog.globalNamed "fluxion/frac.faults" = some 1 := by kernel_rfl
theorem tFaults : (Tryz.prog.globals[1]?).map (·.type) = some 143 := by kernel_rfl
theorem string_of {s : ByteArray} {l : List UInt8} (h : s.data.toList = l) : s = ⟨l.toArray⟩ := by rw [← Lib.mk_data s, h]
set_option maxRecDepth 100000 in
theorem told_cells {W : World} {n : Nat} {cs : List Value} {x : DataW Unit × List MemPlace} {l : List UInt8} {k : Int} {enc : TypeId × Value → Unit} {sp : Nat → Bool} {held : Bool}
    (h : DataW.trod enc Tryz.prog W 0 sp held n 142 cs = some x) (hx : x.1 = .agg [.lit (.string l), .lit (.int .i64 k)]) : cs = [.string ⟨l.toArray⟩, .int .i64 k] := by
  obtain ⟨xs, m, _, rfl, hlen, hn, hel⟩ := DataW.trod_struct Tryz.underlying142 h
  have c83 : Tryz.prog.cellsOf 142 = 2 := by kernel_rfl
  have c9 : Tryz.prog.cellsOf 9 = 1 := by kernel_rfl
  have c24 : Tryz.prog.cellsOf 32 = 1 := by kernel_rfl
  rw [c83] at hlen
  match cs, hlen with
  | [a, b], _ =>
    have h0 := hel 0 _ rfl
    have h1 := hel 1 _ rfl
    match xs, hn with
    | [y0, y1], _ =>
      simp only [List.map_cons, List.map_nil, DataW.agg.injEq, List.cons.injEq, and_true] at hx
      rw [show Tryz.prog.cellsOf (Field.type _) = 1 from c9] at h0
      rw [show Tryz.prog.cellsOf (Field.type _) = 1 from c24] at h1
      obtain ⟨s, e1, e2, _⟩ := DataW.trod_string Tryz.underlying9 (show DataW.trod enc Tryz.prog W 0 sp held m 9 [a] = some y0 from h0)
      obtain ⟨z, e3, e4, _⟩ := DataW.trod_int Tryz.underlying32 (show DataW.trod enc Tryz.prog W 0 sp held m 32 [b] = some y1 from h1)
      have hs : s.data.toList = l := by have := hx.1; rw [e2] at this; simpa using this
      have hz : z = k := by have := hx.2; rw [e4] at this; simpa using this
      injection e1 with e1 _
      injection e3 with e3 _
      rw [e1, e3, hz, string_of hs]


theorem c46 : Tryz.prog.cellsOf 89 = 1 := by kernel_rfl
set_option maxRecDepth 100000 in
/-- An argument that is a list of digits. -/
theorem rl_of {H : Type} {enc : TypeId × Value → H} {W : World} {n : Nat} {cs : List Value} {x : DataW H × List MemPlace} {held : Bool} (h : DataW.trod enc Tryz.prog W 0 (fun _ => true) held n 81 cs = some x) :
    ∃ s xs, cs = [s] ∧ RL W s xs := by
  rcases Go.Deep.open_slice1 Tryz.underlying81 c46 h with ⟨rfl, _⟩ | ⟨a, len, cap, m, k, V, D, Pl, rfl, _, hl, hm, hmm, _, hx⟩
  · exact ⟨_, [], rfl, none, 0, rfl, Nat.le_refl _, by simp [maxLen], by simp, fun j v hj => by simp [u32s] at hj⟩
  · have hcm : m = cap := by simpa using hmm
    have hz : ∀ i, i < len → ∃ z : Nat, V i = .int .u32 (z : Int) ∧ z < 4294967296 := by
      intro i hi
      obtain ⟨z, e1, _, hw⟩ := DataW.trod_int Tryz.underlying89 (hx i (by omega)).2
      have hb := bounds_u32 hw
      injection e1 with e1 _
      exact ⟨z.toNat, by rw [e1]; congr 1; omega, by omega⟩
    refine ⟨_, (List.range len).map (fun i => if hi : i < len then Classical.choose (hz i hi) else 0), rfl, some a, cap, by simp, by simpa using hl, by simp; omega, ?_, ?_⟩
    · intro y hy
      obtain ⟨i, hi, rfl⟩ := List.mem_map.1 hy
      have hi' := List.mem_range.1 hi
      rw [dif_pos hi']
      exact (Classical.choose_spec (hz i hi')).2
    · intro j v hj
      refine ⟨a, rfl, ?_⟩
      have hjl : j < len := by
        have := (List.getElem?_eq_some_iff.1 hj).1
        simpa [u32s] using this
      have hs := (Classical.choose_spec (hz j hjl)).1
      rw [(hx j (by omega)).1, hs]
      simp [u32s, hjl] at hj
      rw [← hj]

theorem read_all {ts : List TypeId} (h : (ts.all fun t => Tryz.prog.readableRec t && decide (t < Tryz.prog.types.size)) = true) : ∀ t ∈ ts, Tryz.prog.readableRec t = true ∧ t < Tryz.prog.types.size := by
  intro t ht
  have := List.all_eq_true.1 h t ht
  simpa using this
theorem arr2 {cs : Array Value} (h : cs.size = 2) : ∃ a b, cs = #[a, b] := by
  obtain ⟨l⟩ := cs
  match l, h with
  | [a, b], _ => exact ⟨a, b, rfl⟩

end Go.Proofs.YtcbaipnphepbeaaGreatDoor

namespace Go.Proofs.YtcbaipnphepbeaaGreatDoor
open Go.RowKit Go.ChangeShapes Go.WideShapes Go.ChangeAt

theorem arr4 {cs : Array Value} (h : cs.size = 4) : ∃ a b c d, cs = #[a, b, c, d] := by
  obtain ⟨l⟩ := cs
  match l, h with
  | [a, b, c, d], _ => exact ⟨a, b, c, d, rfl⟩
set_option maxRecDepth 100000 in
theorem rat_of {H : Type} {enc : TypeId × Value → H} {W : World} {n base : Nat} {v : Value} {x : DataW H × List MemPlace} {held : Bool} (hv : Value.okWide Tryz.prog W .any base 83 v)
    (h : DataW.trod enc Tryz.prog W 0 (fun _ => true) held n 83 v.cells.toList = some x) : ∃ f neg sx sy xs ys, v = .agg #[.int .i64 f, .bool neg, sx, sy] ∧ RL W sx xs ∧ RL W sy ys := by
  have c26 : Tryz.prog.cellsOf 83 = 4 := by kernel_rfl
  have c24 : Tryz.prog.cellsOf 32 = 1 := by kernel_rfl
  have c4 : Tryz.prog.cellsOf 4 = 1 := by kernel_rfl
  have c22 : Tryz.prog.cellsOf 81 = 1 := by kernel_rfl
  simp only [Value.okWide, Tryz.underlying83] at hv
  obtain ⟨cs, rfl, hsz, _⟩ := hv
  obtain ⟨a, b, c, d, rfl⟩ := arr4 (hsz.trans c26)
  obtain ⟨xs, m, _, _, _, hn, hel⟩ := DataW.trod_struct Tryz.underlying83 h
  have h0 := hel 0 _ rfl
  have h1 := hel 1 _ rfl
  have h2 := hel 2 _ rfl
  have h3 := hel 3 _ rfl
  rw [show Tryz.prog.cellsOf (Field.type _) = 1 from c24] at h0
  rw [show Tryz.prog.cellsOf (Field.type _) = 1 from c4] at h1
  rw [show Tryz.prog.cellsOf (Field.type _) = 1 from c22] at h2
  rw [show Tryz.prog.cellsOf (Field.type _) = 1 from c22] at h3
  match xs, hn with
  | [y0, y1, y2, y3], _ =>
    obtain ⟨f, e0, _⟩ := DataW.trod_int Tryz.underlying32 (show DataW.trod enc Tryz.prog W 0 (fun _ => true) held m 32 [a] = some y0 from h0)
    obtain ⟨neg, e1, _⟩ := DataW.trod_bool Tryz.underlying4 (show DataW.trod enc Tryz.prog W 0 (fun _ => true) held m 4 [b] = some y1 from h1)
    obtain ⟨s0, l0, e2, r0⟩ := rl_of (show DataW.trod enc Tryz.prog W 0 (fun _ => true) held m 81 [c] = some y2 from h2)
    obtain ⟨s1, l1, e3, r1⟩ := rl_of (show DataW.trod enc Tryz.prog W 0 (fun _ => true) held m 81 [d] = some y3 from h3)
    simp only [List.cons.injEq, and_true] at e0 e1 e2 e3
    subst e0 e1 e2 e3
    exact ⟨_, _, _, _, _, _, rfl, r0, r1⟩
end Go.Proofs.YtcbaipnphepbeaaGreatDoor

namespace Go.Proofs.YtcbaipnphepbeaaGreatDoor
open Go.RowKit Go.ChangeShapes Go.WideShapes Go.ChangeAt

set_option maxRecDepth 100000 in
theorem bit_of {H : Type} {enc : TypeId × Value → H} {W : World} {n base : Nat} {v : Value} {x : DataW H × List MemPlace} {held : Bool} (hv : Value.okWide Tryz.prog W .any base 46 v)
    (h : DataW.trod enc Tryz.prog W 0 (fun _ => true) held n 46 v.cells.toList = some x) : ∃ f on, v = .agg #[.int .i64 f, .bool on] := by
  have c55 : Tryz.prog.cellsOf 46 = 2 := by kernel_rfl
  have c24 : Tryz.prog.cellsOf 32 = 1 := by kernel_rfl
  have c4 : Tryz.prog.cellsOf 4 = 1 := by kernel_rfl
  simp only [Value.okWide, Tryz.underlying46] at hv
  obtain ⟨cs, rfl, hsz, _⟩ := hv
  obtain ⟨a, b, rfl⟩ := arr2 (hsz.trans c55)
  obtain ⟨xs, m, _, _, _, hn, hel⟩ := DataW.trod_struct Tryz.underlying46 h
  have h0 := hel 0 _ rfl
  have h1 := hel 1 _ rfl
  rw [show Tryz.prog.cellsOf (Field.type _) = 1 from c24] at h0
  rw [show Tryz.prog.cellsOf (Field.type _) = 1 from c4] at h1
  match xs, hn with
  | [y0, y1], _ =>
    obtain ⟨f, e0, _⟩ := DataW.trod_int Tryz.underlying32 (show DataW.trod enc Tryz.prog W 0 (fun _ => true) held m 32 [a] = some y0 from h0)
    obtain ⟨on, e1, _⟩ := DataW.trod_bool Tryz.underlying4 (show DataW.trod enc Tryz.prog W 0 (fun _ => true) held m 4 [b] = some y1 from h1)
    simp only [List.cons.injEq, and_true] at e0 e1
    subst e0 e1
    exact ⟨_, _, rfl⟩
end Go.Proofs.YtcbaipnphepbeaaGreatDoor

namespace Go.Proofs.YtcbaipnphepbeaaGreatDoor
open Go.RowKit Go.ChangeShapes Go.WideShapes Go.ChangeAt

theorem gKinds : Tryz.prog.globalNamed "fluxion/shape.kinds" = some 0 := by kernel_rfl
theorem tKinds : (Tryz.prog.globals[0]?).map (·.type) = some 108 := by kernel_rfl
set_option maxRecDepth 100000 in
theorem str_cells {W : World} {n : Nat} {cs : List Value} {x : DataW Unit × List MemPlace} {l : List UInt8} {enc : TypeId × Value → Unit} {sp : Nat → Bool} {held : Bool}
    (h : DataW.trod enc Tryz.prog W 0 sp held n 9 cs = some x) (hx : x.1 = .lit (.string l)) : cs = [.string ⟨l.toArray⟩] := by
  obtain ⟨s, e1, e2, _⟩ := DataW.trod_string Tryz.underlying9 h
  have hs : s.data.toList = l := by rw [e2] at hx; simpa using hx
  rw [e1, string_of hs]
set_option maxRecDepth 100000 in
/-- What the rows' condition gives the walks. -/
theorem glob3_of {laid : List (String × DataW Unit)} {W : World} (hpl : (laid.all fun x => x.2.handleName?.isNone) = true) (hl : laid = [("math/bits.deBruijn32tab", Rows.laid_math_bits_deBruijn32tab), ("math/bits.deBruijn64tab", Rows.laid_math_bits_deBruijn64tab), ("internal/strconv.uint64pow10", Rows.laid_internal_strconv_uint64pow10), ("fluxion/frac.faults", Rows.laid_fluxion_frac_faults), ("fluxion/shape.kinds", Rows.laid_fluxion_shape_kinds)])
    (h : laidMetH Tryz.prog laid W) (hsh : W.ShapedOpen Tryz.prog) : Glob3 W := by
  rw [MakeChecks.laidMetH_plain _ _ _ hpl, hl] at h
  obtain ⟨ps, ⟨_, _, _, _, _, _, _, _, _, _, ⟨_, _, _, _, _, _, _, _, _, _, ⟨_, _, _, _, _, _, _, _, _, _, ⟨g1, t1, cs1, f1, p1, q1, hg1, ht1, hv1, hd1, ⟨g2, t2, cs2, f2, p2, q2, hg2, ht2, hv2, hd2, _, _⟩, _⟩, _⟩, _⟩, _⟩, _, _⟩ := h
  obtain rfl := Option.some.inj (gFaults.symm.trans hg1)
  obtain rfl := Option.some.inj (tFaults.symm.trans ht1)
  obtain rfl := Option.some.inj (gKinds.symm.trans hg2)
  obtain rfl := Option.some.inj (tKinds.symm.trans ht2)
  have hK : W.cell? ⟨0, 0, none⟩ = some (.string ⟨#[]⟩) ∧ W.cell? ⟨0, 1, none⟩ = some (.string realB) ∧ W.cell? ⟨0, 2, none⟩ = some (.string flagB) ∧ W.cell? ⟨0, 3, none⟩ = some (.string indexB) := by
    obtain ⟨xs, m1, rfl, hx1, hlen, hn, hel⟩ := DataW.trod_array Tryz.underlying108 hd2
    have c4 : Tryz.prog.cellsOf 108 = 4 := by kernel_rfl
    have c1 : Tryz.prog.cellsOf 9 = 1 := by kernel_rfl
    have h0 := hel 0 (by decide)
    have h1 := hel 1 (by decide)
    have h2 := hel 2 (by decide)
    have h3 := hel 3 (by decide)
    rw [c1] at h0 h1 h2 h3
    rw [c4] at hlen
    match xs, hn with
    | [x0, x1, x2, x3], _ =>
      simp only [Rows.laid_fluxion_shape_kinds, List.map_cons, List.map_nil, Prod.mk.injEq, DataW.agg.injEq, List.cons.injEq, and_true] at hx1
      have e0 := str_cells (show DataW.trod _ Tryz.prog W 0 _ _ m1 9 _ = some x0 from h0) hx1.1.1.symm
      have e1 := str_cells (show DataW.trod _ Tryz.prog W 0 _ _ m1 9 _ = some x1 from h1) hx1.1.2.1.symm
      have e2 := str_cells (show DataW.trod _ Tryz.prog W 0 _ _ m1 9 _ = some x2 from h2) hx1.1.2.2.1.symm
      have e3 := str_cells (show DataW.trod _ Tryz.prog W 0 _ _ m1 9 _ = some x3 from h3) hx1.1.2.2.2.symm
      obtain ⟨l1⟩ := cs2
      match l1, hlen with
      | [a, b, c, d], _ =>
        simp at e0 e1 e2 e3
        subst e0 e1 e2 e3
        exact ⟨by simpa using World.var?_cell hg2 hv2 0, by simpa [realB] using World.var?_cell hg2 hv2 1, by simpa [flagB] using World.var?_cell hg2 hv2 2, by simpa [indexB] using World.var?_cell hg2 hv2 3⟩
  refine ⟨?_, hK.2.1, hK.2.2.1, hK.2.2.2, hK.1⟩
  obtain ⟨xs, m1, rfl, hx1, hlen, hn, hel⟩ := DataW.trod_array Tryz.underlying143 hd1
  have c84 : Tryz.prog.cellsOf 143 = 4 := by kernel_rfl
  have c83 : Tryz.prog.cellsOf 142 = 2 := by kernel_rfl
  have h0 := hel 0 (by decide)
  have h1 := hel 1 (by decide)
  rw [c83] at h0 h1
  rw [c84] at hlen
  match xs, hn with
  | [x0, x1], _ =>
    simp only [Rows.laid_fluxion_frac_faults, List.map_cons, List.map_nil, Prod.mk.injEq, DataW.agg.injEq, List.cons.injEq, and_true] at hx1
    have e0 := told_cells (show DataW.trod _ Tryz.prog W 0 _ _ m1 142 _ = some x0 from h0) hx1.1.1.symm
    have e1 := told_cells (show DataW.trod _ Tryz.prog W 0 _ _ m1 142 _ = some x1 from h1) hx1.1.2.symm
    obtain ⟨l1⟩ := cs1
    match l1, hlen with
    | [a, b, c, d], _ =>
      simp at e0 e1
      obtain ⟨rfl, rfl⟩ := e0
      obtain ⟨rfl, rfl⟩ := e1
      obtain ⟨m, hm⟩ := cell_of_shapedOpen_int (P := Tryz.prog) (g := 2) (t := 3) (zero := #[.int .i64 0]) hsh (of_decide_eq_true (by kernel_rfl)) (by kernel_rfl) rfl (by kernel_rfl) (by kernel_rfl) Tryz.underlying3
      exact ⟨by simpa [rangeB] using World.var?_cell hg1 hv1 0, by simpa using World.var?_cell hg1 hv1 1, by simpa [zeroB] using World.var?_cell hg1 hv1 2, by simpa using World.var?_cell hg1 hv1 3, ⟨m, hm⟩⟩
theorem c3i : Tryz.prog.cellsOf 3 = 1 := by kernel_rfl
set_option maxRecDepth 100000 in
/-- An argument that is a list of ints. -/
theorem il_of {H : Type} {enc : TypeId × Value → H} {W : World} {n : Nat} {cs : List Value} {x : DataW H × List MemPlace} {held : Bool} (h : DataW.trod enc Tryz.prog W 0 (fun _ => true) held n 23 cs = some x) :
    ∃ s ds, cs = [s] ∧ RawL 1 IntC W s ds := by
  rcases Go.Deep.open_slice1 Tryz.underlying23 c3i h with ⟨rfl, _⟩ | ⟨a, len, cap, m, k, V, D, Pl, rfl, _, hl, hm, hmm, _, hx⟩
  · exact ⟨_, [], rfl, none, 0, [], rfl, Nat.le_refl _, by simp [maxLen], fun j v hj => by simp at hj, rfl⟩
  · have hcm : m = cap := by simpa using hmm
    have hz : ∀ i, i < len → ∃ z : Int, V i = .int .i64 z := by
      intro i hi
      obtain ⟨z, e1, _, hw⟩ := DataW.trod_int Tryz.underlying3 (hx i (by omega)).2
      injection e1 with e1 _
      exact ⟨z, e1⟩
    obtain ⟨ds, hds⟩ : ∃ ds : List Int, ds = (List.range len).map (fun i => if hi : i < len then Classical.choose (hz i hi) else 0) := ⟨_, rfl⟩
    have hlen : ds.length = len := by rw [hds]; simp
    refine ⟨_, ds, rfl, some a, cap, ivs ds, by rw [hlen], by rw [hlen]; simpa using hl, by rw [hlen]; omega, ?_, rows_ints ds W⟩
    · intro j v hj
      refine ⟨a, rfl, ?_⟩
      have hjl : j < len := by
        have := (List.getElem?_eq_some_iff.1 hj).1
        simpa [ivs, hlen] using this
      have hs := Classical.choose_spec (hz j hjl)
      rw [(hx j (by omega)).1, hs]
      rw [ivs_get ds j (by rw [hlen]; exact hjl)] at hj
      rw [← hj, hds, List.getD_eq_getElem?_getD]
      simp [hjl]
set_option maxRecDepth 100000 in
/-- An argument that is a type. -/
theorem ty_of {H : Type} {enc : TypeId × Value → H} {W : World} {n base : Nat} {v : Value} {x : DataW H × List MemPlace} {held : Bool} (hv : Value.okWide Tryz.prog W .any base 25 v)
    (h : DataW.trod enc Tryz.prog W 0 (fun _ => true) held n 25 v.cells.toList = some x) : ∃ k ds, TL W v k ds := by
  have c25 : Tryz.prog.cellsOf 25 = 2 := by kernel_rfl
  have c22 : Tryz.prog.cellsOf 22 = 1 := by kernel_rfl
  have c23 : Tryz.prog.cellsOf 23 = 1 := by kernel_rfl
  simp only [Value.okWide, Tryz.underlying25] at hv
  obtain ⟨cs, rfl, hsz, _⟩ := hv
  obtain ⟨a, b, rfl⟩ := arr2 (hsz.trans c25)
  obtain ⟨xs, m, _, _, _, hn, hel⟩ := DataW.trod_struct Tryz.underlying25 h
  have h0 := hel 0 _ rfl
  have h1 := hel 1 _ rfl
  rw [show Tryz.prog.cellsOf (Field.type _) = 1 from c22] at h0
  rw [show Tryz.prog.cellsOf (Field.type _) = 1 from c23] at h1
  match xs, hn with
  | [y0, y1], _ =>
    obtain ⟨f, e0, _⟩ := DataW.trod_int Tryz.underlying22 (show DataW.trod enc Tryz.prog W 0 (fun _ => true) held m 22 [a] = some y0 from h0)
    obtain ⟨s, ds, e1, hr⟩ := il_of (show DataW.trod enc Tryz.prog W 0 (fun _ => true) held m 23 [b] = some y1 from h1)
    simp only [List.cons.injEq, and_true] at e0 e1
    subst e0 e1
    exact ⟨_, ds, _, rfl, hr⟩
end Go.Proofs.YtcbaipnphepbeaaGreatDoor
