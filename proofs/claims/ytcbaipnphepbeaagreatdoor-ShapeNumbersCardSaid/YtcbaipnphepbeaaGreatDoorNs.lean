/- From the given statements to the contracts: what the listed variables hold, the arguments behind the call, the wrap. An argument that is a Rat. An argument that is a bit. From the given statements of layer 3 to the contracts: the listed variables, arguments that are types. -/
import Derived.Test.YtcbaipnphepbeaaGreatDoorRows
import Derived.Test.YtcbaipnphepbeaaGreatDoorNe
import Derived.Test.YtcbaipnphepbeaaGreatDoorNf
import Derived.ProofKit
import Derived.LaidMore
import Derived.OpenShut
import Derived.Stop.Joined
import Derived.HandedShaped
import Derived.Shelf.Vars
import Derived.Deep.Slices
import Derived.Lay
import Derived.Test.YtcbaipnphepbeaaGreatDoorNr
namespace Go.Proofs.YtcbaipnphepbeaaGreatDoor
open Go.RowKit Go.ChangeShapes Go.WideShapes Go.ChangeAt

theorem Tryz.own : ownKnob Tryz.prog.godebug = none := by kernel_rfl
theorem Tryz.laidOut : laidOutB Tryz.prog = true := by kernel_rfl

section
variable {H : Type} {enc : TypeId × Value → H}
/-- Arguments read behind the call as they read before. -/
theorem below_all {P : Program} (hl : laidOutB P = true) {W W' : World} (hb : Below W.heap.size W W') : ∀ {ts : List TypeId} {vs : List Value} {ds : List (DataW H)} {ps : List MemPlace},
    (∀ t ∈ ts, P.readableRec t = true ∧ t < P.types.size) → DataW.TrodAll enc P W 0 (fun _ => true) true ts vs ds ps → DataW.TrodAll enc P W' 0 (fun b => decide (b < W.heap.size)) true ts vs ds ps
  | [], [], [], _, _, h => h
  | t :: _, _ :: _, _ :: _, _, ht, ⟨p, q, ⟨n, hn⟩, hs, e⟩ =>
    ⟨p, q, Below.trod hl (ht t List.mem_cons_self).1 (ht t List.mem_cons_self).2 ⟨n, hn⟩ hb (DataW.trod_lt n _ _ _ hn), below_all hl hb (fun t' h' => ht t' (List.mem_cons_of_mem _ h')) hs, e⟩
  | [], _ :: _, _, _, _, h => h.elim
  | [], [], _ :: _, _, _, h => h.elim
  | _ :: _, [], _, _, _, h => h.elim
  | _ :: _, _ :: _, [], _, _, h => h.elim

/-- The wrap: what the row lists, and the world's shape, for the contract. -/
theorem returns_law {a : Assume} {C : Checked} {os : Os} {f : FuncId} {fn : Func} {s : ChangeSpec} {conds : List PathCond} {apart fresh handsOn again : Bool} {X : World → Array Value → Prop}
    (hX : ∀ (w w' : World) (args : Array Value), w.heap = w'.heap → X w args → X w' args)
    (own : ownKnob C.prog.godebug = none) (started : os.Started) (noInit : C.prog.inits.idxOf? f = none) (hfn : C.prog.funcs[f]? = some fn)
    (witness : ∃ (w : World) (tape : Tape) (i : Input), w.os = os ∧ (w.forCall tape i).Shaped C.prog ∧ i.vars = [] ∧ Input.okWide C.prog (w.forCall tape i) .any w.heap.size f i ∧
      ((s.pre enc C.prog fn conds apart (w.forCall tape i).memory i.args ∧ X (w.forCall tape i).memory i.args) ∧ sizedMet enc C.prog fn (OpenSpec.ofChange s) apart (w.forCall tape i).memory i.args) ∧ a.holds C.prog (lone (Frame.enter C.prog f i.args .normal) [] (w.forCall tape i)))
    (contract : ∀ (W : World) (base : Nat) (args : Array Value) (ds gs : List (DataW H)) (before : List MemPlace),
      (∀ (j : Nat) t v, fn.params[j]? = some t → args[j]? = some v → Value.okWide C.prog W .any base t v) →
      DataW.Whole enc C.prog fn.params.toList s.vars apart W args.toList ds gs before →
      X W args → W.ShapedOpen C.prog →
      Calls C.prog f args W fun e W' => ∃ v, e = .returned v ∧ s.post enc C.prog fn apart fresh handsOn again W args v W') :
    ReturnsInHanded a C os f .any (fun w args => (s.pre enc C.prog fn conds apart w args ∧ X w args) ∧ sizedMet enc C.prog fn (OpenSpec.ofChange s) apart w args) (s.post enc C.prog fn apart fresh handsOn again) := by
  refine returnsInHanded_of_calls own started noInit witness ?_
  intro w tape i _ hsh _ hok hpre _
  obtain ⟨_, _, _, fn', hfn', _, _, _, _, hval⟩ := hok
  have e : fn' = fn := Option.some.inj (hfn'.symm.trans hfn)
  subst e
  obtain ⟨⟨⟨ds, gs, before, hw, hc⟩, hx⟩, hz⟩ := hpre
  have hw' := DataW.Whole.of_heap (w' := w.forCall tape i) (by rfl) hw
  refine (contract (w.forCall tape i) w.heap.size i.args ds gs before hval hw' (hX _ _ _ (by rfl) hx) hsh).mono fun e W' ⟨v, he, hp⟩ => ?_
  subst he
  exact ChangeSpec.post_blind hp

/-- What a law is to show of a call that returns true and leaves all as it was. -/
theorem law_post {fn : Func} {s : ChangeSpec} {ts : List TypeId} {W W' : World} {args : Array Value} {ds : List (DataW H)} {before : List MemPlace} (hts : fn.params.toList = ts) (hrt : fn.resultTypes.toList = [4]) (hvars : s.vars = [])
    (hread : ∀ t ∈ ts, Tryz.prog.readableRec t = true ∧ t < Tryz.prog.types.size)
    (hfn : (s.fn H (ds ++ [])).results = [.lit (.bool true)] ∧ (s.fn H (ds ++ [])).args = ds ∧ (s.fn H (ds ++ [])).vars = [])
    (hW : DataW.Whole enc Tryz.prog fn.params.toList s.vars false W args.toList ds [] before) (hA : DataW.TrodAll enc Tryz.prog W 0 (fun _ => true) true ts args.toList ds before) (he : Ext W W') :
    s.post enc Tryz.prog fn false true false false W args (.bool true) W' := by
  refine ⟨ds, [], before, [], before, [], hW, ?_, ?_, ?_, Below.frame he _, fun h => by cases h⟩
  · rw [hfn.1, hrt, show fn.resultTypes.size = 1 from by rw [← Array.length_toList, hrt]; rfl]
    exact trodAll_mk1 (shut_bool Tryz.underlying4 true)
  · rw [hfn.2.1, hts]
    exact below_all Tryz.laidOut he hread hA
  · rw [hvars, hfn.2.2]; rfl
end

theorem gFaults : Tryz.prog.globalNamed "fluxion/frac.faults" = some 1 := by kernel_rfl
theorem tFaults : (Tryz.prog.globals[1]?).map (·.type) = some 143 := by kernel_rfl
theorem string_of {s : ByteArray} {l : List UInt8} (h : s.data.toList = l) : s = ⟨l.toArray⟩ := by rw [← Lib.mk_data s, h]
set_option maxRecDepth 100000 in
theorem told_cells {W : World} {n : Nat} {cs : List Value} {x : DataW Unit × List MemPlace} {l : List UInt8} {k : Int} {enc : TypeId × Value → Unit} {sp : Nat → Bool} {held : Bool}
    (h : DataW.trod enc Tryz.prog W 0 sp held n 142 cs = some x) (hx : x.1 = .agg [.lit (.string l), .lit (.int .i64 k)]) : cs = [.string ⟨l.toArray⟩, .int .i64 k] := by
  obtain ⟨xs, m, _, rfl, hlen, hn, hel⟩ := DataW.trod_struct Tryz.underlying142 h
  have c83 : Tryz.prog.cellsOf 142 = 2 := by kernel_rfl
  have c9 : Tryz.prog.cellsOf 9 = 1 := by kernel_rfl
  have c24 : Tryz.prog.cellsOf 32 = 1 := by kernel_rfl
  rw [c83] at hlen
  match cs, hlen with
  | [a, b], _ =>
    have h0 := hel 0 _ rfl
    have h1 := hel 1 _ rfl
    match xs, hn with
    | [y0, y1], _ =>
      simp only [List.map_cons, List.map_nil, DataW.agg.injEq, List.cons.injEq, and_true] at hx
      rw [show Tryz.prog.cellsOf (Field.type _) = 1 from c9] at h0
      rw [show Tryz.prog.cellsOf (Field.type _) = 1 from c24] at h1
      obtain ⟨s, e1, e2, _⟩ := DataW.trod_string Tryz.underlying9 (show DataW.trod enc Tryz.prog W 0 sp held m 9 [a] = some y0 from h0)
      obtain ⟨z, e3, e4, _⟩ := DataW.trod_int Tryz.underlying32 (show DataW.trod enc Tryz.prog W 0 sp held m 32 [b] = some y1 from h1)
      have hs : s.data.toList = l := by have := hx.1; rw [e2] at this; simpa using this
      have hz : z = k := by have := hx.2; rw [e4] at this; simpa using this
      injection e1 with e1 _
      injection e3 with e3 _
      rw [e1, e3, hz, string_of hs]


theorem c46 : Tryz.prog.cellsOf 89 = 1 := by kernel_rfl
set_option maxRecDepth 100000 in
/-- An argument that is a list of digits. -/
theorem rl_of {H : Type} {enc : TypeId × Value → H} {W : World} {n : Nat} {cs : List Value} {x : DataW H × List MemPlace} {held : Bool} (h : DataW.trod enc Tryz.prog W 0 (fun _ => true) held n 81 cs = some x) :
    ∃ s xs, cs = [s] ∧ RL W s xs := by
  rcases Go.Deep.open_slice1 Tryz.underlying81 c46 h with ⟨rfl, _⟩ | ⟨a, len, cap, m, k, V, D, Pl, rfl, _, hl, hm, hmm, _, hx⟩
  · exact ⟨_, [], rfl, none, 0, rfl, Nat.le_refl _, by simp [maxLen], by simp, fun j v hj => by simp [u32s] at hj⟩
  · have hcm : m = cap := by simpa using hmm
    have hz : ∀ i, i < len → ∃ z : Nat, V i = .int .u32 (z : Int) ∧ z < 4294967296 := by
      intro i hi
      obtain ⟨z, e1, _, hw⟩ := DataW.trod_int Tryz.underlying89 (hx i (by omega)).2
      have hb := bounds_u32 hw
      injection e1 with e1 _
      exact ⟨z.toNat, by rw [e1]; congr 1; omega, by omega⟩
    refine ⟨_, (List.range len).map (fun i => if hi : i < len then Classical.choose (hz i hi) else 0), rfl, some a, cap, by simp, by simpa using hl, by simp; omega, ?_, ?_⟩
    · intro y hy
      obtain ⟨i, hi, rfl⟩ := List.mem_map.1 hy
      have hi' := List.mem_range.1 hi
      rw [dif_pos hi']
      exact (Classical.choose_spec (hz i hi')).2
    · intro j v hj
      refine ⟨a, rfl, ?_⟩
      have hjl : j < len := by
        have := (List.getElem?_eq_some_iff.1 hj).1
        simpa [u32s] using this
      have hs := (Classical.choose_spec (hz j hjl)).1
      rw [(hx j (by omega)).1, hs]
      simp [u32s, hjl] at hj
      rw [← hj]

theorem read_all {ts : List TypeId} (h : (ts.all fun t => Tryz.prog.readableRec t && decide (t < Tryz.prog.types.size)) = true) : ∀ t ∈ ts, Tryz.prog.readableRec t = true ∧ t < Tryz.prog.types.size := by
  intro t ht
  have := List.all_eq_true.1 h t ht
  simpa using this
end Go.Proofs.YtcbaipnphepbeaaGreatDoor

namespace Go.Proofs.YtcbaipnphepbeaaGreatDoor
open Go.RowKit Go.ChangeShapes Go.WideShapes Go.ChangeAt

theorem arr4 {cs : Array Value} (h : cs.size = 4) : ∃ a b c d, cs = #[a, b, c, d] := by
  obtain ⟨l⟩ := cs
  match l, h with
  | [a, b, c, d], _ => exact ⟨a, b, c, d, rfl⟩
end Go.Proofs.YtcbaipnphepbeaaGreatDoor

namespace Go.Proofs.YtcbaipnphepbeaaGreatDoor
open Go.RowKit Go.ChangeShapes Go.WideShapes Go.ChangeAt

end Go.Proofs.YtcbaipnphepbeaaGreatDoor

namespace Go.Proofs.YtcbaipnphepbeaaGreatDoor
open Go.RowKit Go.ChangeShapes Go.WideShapes Go.ChangeAt

theorem gKinds : Tryz.prog.globalNamed "fluxion/shape.kinds" = some 0 := by kernel_rfl
theorem tKinds : (Tryz.prog.globals[0]?).map (·.type) = some 108 := by kernel_rfl
set_option maxRecDepth 100000 in
theorem str_cells {W : World} {n : Nat} {cs : List Value} {x : DataW Unit × List MemPlace} {l : List UInt8} {enc : TypeId × Value → Unit} {sp : Nat → Bool} {held : Bool}
    (h : DataW.trod enc Tryz.prog W 0 sp held n 9 cs = some x) (hx : x.1 = .lit (.string l)) : cs = [.string ⟨l.toArray⟩] := by
  obtain ⟨s, e1, e2, _⟩ := DataW.trod_string Tryz.underlying9 h
  have hs : s.data.toList = l := by rw [e2] at hx; simpa using hx
  rw [e1, string_of hs]
set_option maxRecDepth 100000 in
/-- What the rows' condition gives the walks. -/
theorem glob3_of {laid : List (String × DataW Unit)} {W : World} (hpl : (laid.all fun x => x.2.handleName?.isNone) = true) (hl : laid = [("math/bits.deBruijn32tab", Rows.laid_math_bits_deBruijn32tab), ("math/bits.deBruijn64tab", Rows.laid_math_bits_deBruijn64tab), ("internal/strconv.uint64pow10", Rows.laid_internal_strconv_uint64pow10), ("fluxion/frac.faults", Rows.laid_fluxion_frac_faults), ("fluxion/shape.kinds", Rows.laid_fluxion_shape_kinds)])
    (h : laidMetH Tryz.prog laid W) (hsh : W.ShapedOpen Tryz.prog) : Glob3 W := by
  rw [MakeChecks.laidMetH_plain _ _ _ hpl, hl] at h
  obtain ⟨ps, ⟨_, _, _, _, _, _, _, _, _, _, ⟨_, _, _, _, _, _, _, _, _, _, ⟨_, _, _, _, _, _, _, _, _, _, ⟨g1, t1, cs1, f1, p1, q1, hg1, ht1, hv1, hd1, ⟨g2, t2, cs2, f2, p2, q2, hg2, ht2, hv2, hd2, _, _⟩, _⟩, _⟩, _⟩, _⟩, _, _⟩ := h
  obtain rfl := Option.some.inj (gFaults.symm.trans hg1)
  obtain rfl := Option.some.inj (tFaults.symm.trans ht1)
  obtain rfl := Option.some.inj (gKinds.symm.trans hg2)
  obtain rfl := Option.some.inj (tKinds.symm.trans ht2)
  have hK : W.cell? ⟨0, 0, none⟩ = some (.string ⟨#[]⟩) ∧ W.cell? ⟨0, 1, none⟩ = some (.string realB) ∧ W.cell? ⟨0, 2, none⟩ = some (.string flagB) ∧ W.cell? ⟨0, 3, none⟩ = some (.string indexB) := by
    obtain ⟨xs, m1, rfl, hx1, hlen, hn, hel⟩ := DataW.trod_array Tryz.underlying108 hd2
    have c4 : Tryz.prog.cellsOf 108 = 4 := by kernel_rfl
    have c1 : Tryz.prog.cellsOf 9 = 1 := by kernel_rfl
    have h0 := hel 0 (by decide)
    have h1 := hel 1 (by decide)
    have h2 := hel 2 (by decide)
    have h3 := hel 3 (by decide)
    rw [c1] at h0 h1 h2 h3
    rw [c4] at hlen
    match xs, hn with
    | [x0, x1, x2, x3], _ =>
      simp only [Rows.laid_fluxion_shape_kinds, List.map_cons, List.map_nil, Prod.mk.injEq, DataW.agg.injEq, List.cons.injEq, and_true] at hx1
      have e0 := str_cells (show DataW.trod _ Tryz.prog W 0 _ _ m1 9 _ = some x0 from h0) hx1.1.1.symm
      have e1 := str_cells (show DataW.trod _ Tryz.prog W 0 _ _ m1 9 _ = some x1 from h1) hx1.1.2.1.symm
      have e2 := str_cells (show DataW.trod _ Tryz.prog W 0 _ _ m1 9 _ = some x2 from h2) hx1.1.2.2.1.symm
      have e3 := str_cells (show DataW.trod _ Tryz.prog W 0 _ _ m1 9 _ = some x3 from h3) hx1.1.2.2.2.symm
      obtain ⟨l1⟩ := cs2
      match l1, hlen with
      | [a, b, c, d], _ =>
        simp at e0 e1 e2 e3
        subst e0 e1 e2 e3
        exact ⟨by simpa using World.var?_cell hg2 hv2 0, by simpa [realB] using World.var?_cell hg2 hv2 1, by simpa [flagB] using World.var?_cell hg2 hv2 2, by simpa [indexB] using World.var?_cell hg2 hv2 3⟩
  refine ⟨?_, hK.2.1, hK.2.2.1, hK.2.2.2, hK.1⟩
  obtain ⟨xs, m1, rfl, hx1, hlen, hn, hel⟩ := DataW.trod_array Tryz.underlying143 hd1
  have c84 : Tryz.prog.cellsOf 143 = 4 := by kernel_rfl
  have c83 : Tryz.prog.cellsOf 142 = 2 := by kernel_rfl
  have h0 := hel 0 (by decide)
  have h1 := hel 1 (by decide)
  rw [c83] at h0 h1
  rw [c84] at hlen
  match xs, hn with
  | [x0, x1], _ =>
    simp only [Rows.laid_fluxion_frac_faults, List.map_cons, List.map_nil, Prod.mk.injEq, DataW.agg.injEq, List.cons.injEq, and_true] at hx1
    have e0 := told_cells (show DataW.trod _ Tryz.prog W 0 _ _ m1 142 _ = some x0 from h0) hx1.1.1.symm
    have e1 := told_cells (show DataW.trod _ Tryz.prog W 0 _ _ m1 142 _ = some x1 from h1) hx1.1.2.symm
    obtain ⟨l1⟩ := cs1
    match l1, hlen with
    | [a, b, c, d], _ =>
      simp at e0 e1
      obtain ⟨rfl, rfl⟩ := e0
      obtain ⟨rfl, rfl⟩ := e1
      obtain ⟨m, hm⟩ := cell_of_shapedOpen_int (P := Tryz.prog) (g := 2) (t := 3) (zero := #[.int .i64 0]) hsh (of_decide_eq_true (by kernel_rfl)) (by kernel_rfl) rfl (by kernel_rfl) (by kernel_rfl) Tryz.underlying3
      exact ⟨by simpa [rangeB] using World.var?_cell hg1 hv1 0, by simpa using World.var?_cell hg1 hv1 1, by simpa [zeroB] using World.var?_cell hg1 hv1 2, by simpa using World.var?_cell hg1 hv1 3, ⟨m, hm⟩⟩
theorem c3i : Tryz.prog.cellsOf 3 = 1 := by kernel_rfl
set_option maxRecDepth 100000 in
/-- An argument that is a list of ints. -/
theorem il_of {H : Type} {enc : TypeId × Value → H} {W : World} {n : Nat} {cs : List Value} {x : DataW H × List MemPlace} {held : Bool} (h : DataW.trod enc Tryz.prog W 0 (fun _ => true) held n 23 cs = some x) :
    ∃ s ds, cs = [s] ∧ RawL 1 IntC W s ds := by
  rcases Go.Deep.open_slice1 Tryz.underlying23 c3i h with ⟨rfl, _⟩ | ⟨a, len, cap, m, k, V, D, Pl, rfl, _, hl, hm, hmm, _, hx⟩
  · exact ⟨_, [], rfl, none, 0, [], rfl, Nat.le_refl _, by simp [maxLen], fun j v hj => by simp at hj, rfl⟩
  · have hcm : m = cap := by simpa using hmm
    have hz : ∀ i, i < len → ∃ z : Int, V i = .int .i64 z := by
      intro i hi
      obtain ⟨z, e1, _, hw⟩ := DataW.trod_int Tryz.underlying3 (hx i (by omega)).2
      injection e1 with e1 _
      exact ⟨z, e1⟩
    obtain ⟨ds, hds⟩ : ∃ ds : List Int, ds = (List.range len).map (fun i => if hi : i < len then Classical.choose (hz i hi) else 0) := ⟨_, rfl⟩
    have hlen : ds.length = len := by rw [hds]; simp
    refine ⟨_, ds, rfl, some a, cap, ivs ds, by rw [hlen], by rw [hlen]; simpa using hl, by rw [hlen]; omega, ?_, rows_ints ds W⟩
    · intro j v hj
      refine ⟨a, rfl, ?_⟩
      have hjl : j < len := by
        have := (List.getElem?_eq_some_iff.1 hj).1
        simpa [ivs, hlen] using this
      have hs := Classical.choose_spec (hz j hjl)
      rw [(hx j (by omega)).1, hs]
      rw [ivs_get ds j (by rw [hlen]; exact hjl)] at hj
      rw [← hj, hds, List.getD_eq_getElem?_getD]
      simp [hjl]
end Go.Proofs.YtcbaipnphepbeaaGreatDoor
