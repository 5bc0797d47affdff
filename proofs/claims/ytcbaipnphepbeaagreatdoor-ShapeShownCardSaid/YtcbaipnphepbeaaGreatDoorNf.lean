/- Rows of bytes that the call owns: append, store, and the string made of them. Contract of slices.Reverse of bytes. Contracts: nat.Text, nat.Parse. Contract of frac.Text. Contract of nat.Parse. -/
import Derived.Test.YtcbaipnphepbeaaGreatDoorNa
import Derived.Test.YtcbaipnphepbeaaGreatDoorNd
import Derived.Laws.IdiomStrings
import Derived.Shelf.RegionOpenPlain
import Derived.Test.YtcbaipnphepbeaaGreatDoorNc
import Derived.Test.YtcbaipnphepbeaaGreatDoorNb
import Derived.Deep.LoopGhost
import Derived.Test.YtcbaipnphepbeaaGreatDoorNe
import Derived.WalkSpells
namespace Go.Proofs.YtcbaipnphepbeaaGreatDoor
open Go.RowKit

theorem Tryz.info_u8 : (Tryz.prog.info? 5).map (fun i => (i.zero, i.size, i.bytes)) = some (some (.int .u8 0), 1, 1) := by kernel_rfl

def u8s (xs : List Nat) : List Value := xs.map fun (x : Nat) => .int .u8 (x : Int)
theorem u8s_get (xs : List Nat) (j : Nat) (h : j < xs.length) : (u8s xs)[j]? = some (.int .u8 (xs.getD j 0 : Nat)) := by
  simp [u8s, List.getElem?_eq_getElem h, List.getD_eq_getElem?_getD]
/-- Each is a byte, and they are not too many. -/
def Db (xs : List Nat) : Prop := xs.length ≤ 1073741824 ∧ ∀ x ∈ xs, x < 256
/-- A row of bytes that the call owns. -/
def OB (base : Nat) (w : World) (v : Value) (xs : List Nat) : Prop := Db xs ∧ w.ownsRow base 5 1 v xs.length (u8s xs)
theorem OB.kept {b : Nat} {w w' : World} {v : Value} {xs : List Nat} (h : OB b w v xs) (hk : ∀ g, b ≤ g → g < w.heap.size → w'.heap[g]? = w.heap[g]?) : OB b w' v xs := by
  refine ⟨h.1, h.2.1, ?_⟩
  rcases h.2.2 with h' | ⟨g, cap, cur, h1, h2, h3, h4⟩
  · exact .inl h'
  · exact .inr ⟨g, cap, cur, h1, h2, (hk g h2 (Array.getElem?_eq_some_iff.1 h3).1).trans h3, h4⟩
theorem OB.ext {b : Nat} {w w' : World} {v : Value} {xs : List Nat} (h : OB b w v xs) (e : Ext w w') : OB b w' v xs := h.kept fun g _ hg => e.block g hg
theorem OB.form {b : Nat} {w : World} {v : Value} {xs : List Nat} (h : OB b w v xs) : ∃ A c, v = .slice A xs.length c ∧ xs.length ≤ c := by
  rcases h.2.2 with ⟨h1, h2⟩ | ⟨g, cap, cur, h1, _, _, h4, _⟩
  · exact ⟨none, 0, by rw [h2]; exact h1, by omega⟩
  · exact ⟨_, _, h1, h4⟩
theorem OB.nil (b : Nat) (w : World) : OB b w (.slice none 0 0) [] := ⟨⟨by decide, by simp⟩, by simpa [u8s] using World.ownsRow_nil w b 5 1⟩
theorem OB.take {b : Nat} {w : World} {n c : Nat} {A} {xs : List Nat} (h : OB b w (.slice A n c) xs) (k : Nat) (hk : k ≤ xs.length) : OB b w (.slice A k c) (xs.take k) := by
  have hd := h.1
  refine ⟨⟨by have := hd.1; simp; omega, fun x hx => hd.2 x (List.mem_of_mem_take hx)⟩, by simp [u8s], ?_⟩
  have hl : (xs.take k).length = k := by simp; omega
  rcases h.2.2 with ⟨h1, h2⟩ | ⟨g, cap, cur, h1, h2, h3, h4, h5, h6, h7⟩
  · injection h1 with h1 h1' h1''
    have : k = 0 := by omega
    subst this
    exact .inl ⟨by rw [h1, h1''], by simp⟩
  · injection h1 with h1 h1' h1''
    subst h1 h1''
    refine .inr ⟨g, c, cur, by rw [hl], h2, h3, by omega, h5, h6, ?_⟩
    simp only [hl, Nat.mul_one] at h7 ⊢
    rw [show u8s (xs.take k) = (u8s xs).take k from by simp [u8s, List.map_take], ← h7, List.take_take]
    simp; omega
theorem OB.ext_grown {w0 W w1 : World} {b : Nat} {v : Value} {xs : List Nat} (HO : OB b W v xs) (hE : Ext w0 W) (hb : w0.heap.size ≤ b) (hg : W.grownBy w1 v.ownBlock) : Ext w0 w1 :=
  hE.grown hg fun k hk => Nat.le_trans hb (HO.2.lt k hk).1

section
variable {ops : Array Oper} {rest : List Oper} {o : Oper} {a : Act} {Q : Exit → Act → World → Prop}
/-- `append(v, y)` -/
theorem append_u8 {W : World} (base : Nat) (hgd : o.guard = none) (s x : Operand)
    (ho : o.op = .call { callee := .builtin .append, args := #[s, x], argTypes := #[154, 154] })
    (v : Value) (xs : List Nat) (y : Nat) (z : Int) (hz : z = (y : Int)) (HO : OB base W v xs) (hs : a.eval s = v) (hx : a.eval x = .slice (some ⟨W.heap.size, 0, none⟩) 1 1)
    (hy : y < 256) (hbase : base ≤ W.heap.size) (hl : xs.length < 1073741824)
    (h : ∀ v1 w1, OB base w1 v1 (xs ++ [y]) → W.grownBy w1 v.ownBlock → (v1.ownBlock = v.ownBlock ∨ ∃ g, v1.ownBlock = some g ∧ W.heap.size ≤ g) → wpList Tryz.prog ops Q rest (a.put o.dst v1) w1) :
    wpList Tryz.prog ops Q (o :: rest) a (W.alloc (.cells #[.int .u8 z] 5)) := by
  subst hz
  obtain ⟨i0, hi, hz0, hz1, hz2⟩ := info_parts Tryz.info_u8
  refine wpList_append_own_at (W.alloc (.cells #[.int .u8 y] 5)) hgd s x 154 ho base 5 i0 (.int .u8 0) 1 1 Tryz.underlying154 hi hz0 hz1 hz2 rfl (by omega) v xs.length (u8s xs) hs (HO.2.alloc _) ⟨W.heap.size, 0, none⟩ 1 1 [.int .u8 y] hx rfl
    (World.news_of_block (cs := #[.int .u8 y]) (t := 5) (fr := (0, 0)) (heap_alloc_new W _)) (by simp [Value.oneCell']) (by simp only [maxLen]; omega) (by omega) (by simp; omega) ?_
  intro v1 w1 hown hg _ hb
  have hg' := World.grownBy.trans (World.grownBy_alloc W _ v.ownBlock) hg
  refine h v1 w1 ⟨⟨by simp; omega, fun x hx => ?_⟩, ?_⟩ hg' (hb.imp id fun e => ⟨_, e, by simp⟩)
  · rcases List.mem_append.1 hx with hx | hx
    · exact HO.1.2 x hx
    · simp at hx; omega
  have e1 : (xs ++ [y]).length = xs.length + 1 := by simp
  have e2 : u8s (xs ++ [y]) = u8s xs ++ [.int .u8 y] := by simp [u8s]
  rw [e1, e2]; exact hown
end

theorem OB.row {b : Nat} {w : World} {v : Value} {xs : List Nat} (h : OB b w v xs) (hn : 0 < xs.length) :
    ∃ g c, v = .slice (some ⟨g, 0, none⟩) xs.length c ∧ b ≤ g ∧ g < w.heap.size ∧ xs.length ≤ c ∧ v.ownBlock = some g := by
  rcases h.2.2 with ⟨_, h2⟩ | ⟨g, cap, cur, h1, h2, h3, h4, _⟩
  · omega
  · exact ⟨g, cap, h1, h2, (Array.getElem?_eq_some_iff.1 h3).1, h4, by subst h1; rfl⟩
theorem OB.cell {b : Nat} {w : World} {g n c : Nat} {xs : List Nat} (h : OB b w (.slice (some ⟨g, 0, none⟩) n c) xs) (j : Nat) (hj : j < xs.length) : w.cell? ⟨g, j, none⟩ = some (.int .u8 ((xs.getD j 0 : Nat) : Int)) := by
  have := h.2.cells (g := g) rfl j _ (u8s_get xs j hj)
  rwa [add_plain] at this
theorem OB.free {b : Nat} {w : World} {g n c : Nat} {xs : List Nat} (h : OB b w (.slice (some ⟨g, 0, none⟩) n c) xs) (j : Nat) : w.frozen? ⟨g, j, none⟩ = false := by
  rcases h.2.2 with ⟨h', _⟩ | ⟨g', cap', cur, h', _, hh, _⟩
  · cases h'
  · injection h' with h'; injection h' with h'; injection h' with h'
    subst h'
    simp [World.frozen?, hh]
theorem OB.store {b : Nat} {w : World} {g n c : Nat} {xs : List Nat} (h : OB b w (.slice (some ⟨g, 0, none⟩) n c) xs) (j : Nat) {x : Nat} (hx : x < 256) :
    OB b (w.setCell ⟨g, j, none⟩ (.int .u8 (x : Int))) (.slice (some ⟨g, 0, none⟩) n c) (xs.set j x) := by
  have hn : n = xs.length := by
    rcases h.2.2 with ⟨h', _⟩ | ⟨g', cap', cur, h', _⟩
    · cases h'
    · injection h'
  subst hn
  have hs := (h.2.stored j (.int .u8 x)).1
  refine ⟨⟨by simp; exact h.1.1, fun y hy => ?_⟩, ?_⟩
  · rcases List.mem_or_eq_of_mem_set hy with hy | rfl
    · exact h.1.2 y hy
    · exact hx
  have e : u8s (xs.set j x) = (u8s xs).set j (.int .u8 x) := by simp [u8s, List.map_set]
  rw [e]; simpa using hs
/-- `string(v)` -/
theorem OB.text {b : Nat} {w : World} {g n c : Nat} {xs : List Nat} (h : OB b w (.slice (some ⟨g, 0, none⟩) n c) xs) (l : List UInt8) (hl : l = xs.map UInt8.ofNat) :
    (convert 154 9 (.slice (some ⟨g, 0, none⟩) n c)).run Tryz.prog w = .ok (.string ⟨l.toArray⟩) w := by
  subst hl
  have hn : n = xs.length := by
    rcases h.2.2 with ⟨h', _⟩ | ⟨g', cap', cur, h', _⟩
    · cases h'
    · injection h'
  subst hn
  have := run_convert_bytes_back (P := Tryz.prog) w 154 9 5 ⟨g, 0, none⟩ c (xs.map UInt8.ofNat) Tryz.underlying154 Tryz.underlying5 Tryz.underlying9 (fun j hj => ?_)
  · simpa using this
  · have hj' : j < xs.length := by simpa using hj
    rw [add_plain, h.cell j hj', List.getElem_map, UInt8.toNat_ofNat']
    have hx := h.1.2 _ (List.getElem_mem hj')
    rw [List.getD_eq_getElem?_getD, List.getElem?_eq_getElem hj', Option.getD_some, Nat.mod_eq_of_lt (by omega)]

/-- Two rows that don't share a block. -/
def Apart (x out : Value) : Prop := x.ownBlock = none ∨ x.ownBlock ≠ out.ownBlock
theorem Apart.nil (x : Value) : Apart x (.slice none 0 0) := by
  cases hx : x.ownBlock with
  | none => exact .inl hx
  | some g => exact .inr (by rw [hx]; intro e; cases e)
theorem Apart.append {W : World} {b : Nat} {x out v1 : Value} {xs : List Nat} (h : Apart x out) (HO : OV b W x xs) (hv : v1.ownBlock = out.ownBlock ∨ ∃ g, v1.ownBlock = some g ∧ W.heap.size ≤ g) : Apart x v1 := by
  cases hx : x.ownBlock with
  | none => exact .inl hx
  | some g0 =>
    refine .inr fun e => ?_
    rcases hv with hv | ⟨g, hv, hg⟩
    · rcases h with h | h
      · rw [h] at hx; cases hx
      · exact h (e.trans hv)
    · rw [hx, hv] at e
      injection e with e
      have := (HO.2.lt g0 hx).2
      omega
theorem Apart.fresh {W W' : World} {b : Nat} {x out : Value} {xs zs : List Nat} (HO : OV W.heap.size W' x xs) (HB : OB b W out zs) : Apart x out := by
  cases hx : x.ownBlock with
  | none => exact .inl hx
  | some g0 =>
    refine .inr fun e => ?_
    have h1 := (HO.2.lt g0 hx).1
    have h2 := (HB.2.lt g0 (by rw [← e]; exact hx)).2
    omega
end Go.Proofs.YtcbaipnphepbeaaGreatDoor

namespace Go.Proofs.YtcbaipnphepbeaaGreatDoor
open Go.RowKit

set_option maxHeartbeats 1000000 in
theorem reverse_calls {w0 w : World} {b g c : Nat} {xs : List Nat} (h : OB b w (.slice (some ⟨g, 0, none⟩) xs.length c) xs) (he : Ext w0 w) (hg : w0.heap.size ≤ g) :
    Calls Tryz.prog 158 #[.slice (some ⟨g, 0, none⟩) xs.length c] w fun e w' => e = .returned (.tuple #[]) ∧ OB b w' (.slice (some ⟨g, 0, none⟩) xs.length c) xs.reverse ∧ Ext w0 w' := by
  have mixed : Tryz.prog.follows Departure.mixedOrders = true := by kernel_rfl
  have H := Aside.mk h
  have HE := Aside.mk he
  have hl : xs.length ≤ 1073741824 := h.1.1
  clear h he
  go_enter Tryz.func158, Tryz.ntmps158
  go_wp2
  go_loopw [2, 3] (fun i j wr => ∃ (k : Nat) (m : Int) (zs : List Nat), 2 * k ≤ xs.length + 1 ∧ i = .int .i64 (k : Int) ∧ j = .int .i64 m ∧ m = (xs.length : Int) - 1 - (k : Int) ∧ Aside (OB b wr (.slice (some ⟨g, 0, none⟩) xs.length c) zs) ∧ Aside (Ext w0 wr) ∧ Aside (RevAt xs zs k)) (fun i j _ => (intOf j - intOf i + 1).toNat)
  case atStart => exact ⟨0, _, xs, by omega, rfl, rfl, by simp, H, HE, ⟨RevAt.init xs⟩⟩
  case round =>
    obtain ⟨k, m, zs, hk, rfl, rfl, hm, HZ, HB, HR⟩ := hrel
    by_cases hlt : (k : Int) < m
    · obtain ⟨n, rfl⟩ : ∃ n : Nat, m = (n : Int) := ⟨m.toNat, by omega⟩
      have hkn : k < n := by omega
      have hnl : n < xs.length := by omega
      have hkl : k < xs.length := by omega
      have hnk : n + k + 1 = xs.length := by omega
      have hzc := HZ.out.cell k (by rw [HR.out.len]; omega)
      have hzf := HZ.out.free k
      have hzc' := HZ.out.cell n (by rw [HR.out.len]; omega)
      have hzf' := HZ.out.free n
      obtain ⟨x, hx⟩ : ∃ x, zs.getD k 0 = x := ⟨_, rfl⟩
      obtain ⟨y, hy⟩ : ∃ y, zs.getD n 0 = y := ⟨_, rfl⟩
      rw [hx] at hzc
      rw [hy] at hzc'
      have HX := Aside.mk hx
      have HY := Aside.mk hy
      clear hx hy hm
      go_wp2_with fail
      go_region_o
      go_wp2
      go_roundw
      case rel =>
        have hx8 : x < 256 := by rw [← HX.out]; exact HZ.out.1.2 _ (by rw [List.getD_eq_getElem?_getD, List.getElem?_eq_getElem (by rw [HR.out.len]; omega)]; exact List.getElem_mem _)
        have hy8 : y < 256 := by rw [← HY.out]; exact HZ.out.1.2 _ (by rw [List.getD_eq_getElem?_getD, List.getElem?_eq_getElem (by rw [HR.out.len]; omega)]; exact List.getElem_mem _)
        have hst := HR.out.step hkn hnk
        rw [HX.out, HY.out] at hst
        exact ⟨k + 1, (n : Int) - 1, (zs.set k y).set n x, by omega, by go_num, rfl, by omega, ⟨((HZ.out.ext (Ext.refl _).drew).store k hy8).store n hx8⟩, ⟨(HB.out.drew.set hg _).set hg _⟩, ⟨hst⟩⟩
      case measure => simp [intOf]; omega
    · go_wp2
      go_end0
      exact ⟨rfl, by rw [← HR.out.done (by omega)]; exact HZ.out, HB.out⟩

theorem OB.len {b : Nat} {w : World} {A : Option Addr} {n c : Nat} {xs : List Nat} (h : OB b w (.slice A n c) xs) : n = xs.length := by
  obtain ⟨A', c', e, _⟩ := h.form
  injection e
theorem reverse_n {w0 w : World} {b g n c : Nat} {xs : List Nat} (h : OB b w (.slice (some ⟨g, 0, none⟩) n c) xs) (he : Ext w0 w) (hg : w0.heap.size ≤ g) :
    Calls Tryz.prog 158 #[.slice (some ⟨g, 0, none⟩) n c] w fun e w' => e = .returned (.tuple #[]) ∧ OB b w' (.slice (some ⟨g, 0, none⟩) n c) xs.reverse ∧ Ext w0 w' := by
  obtain rfl := h.len
  exact reverse_calls h he hg
end Go.Proofs.YtcbaipnphepbeaaGreatDoor

namespace Go.Proofs.YtcbaipnphepbeaaGreatDoor
open Go.RowKit

/-- The bytes of a list of decimal digits. -/
def chs (xs : List Nat) : List Nat := xs.map fun x => 48 + x
theorem chs_length (xs : List Nat) : (chs xs).length = xs.length := by simp [chs]
theorem chs_snoc (xs : List Nat) (x : Nat) : chs (xs ++ [x]) = chs xs ++ [48 + x] := by simp [chs]
theorem chs_getD {xs : List Nat} {k : Nat} (h : k < xs.length) : (chs xs).getD k 0 = 48 + xs.getD k 0 := by
  simp [chs, List.getD_eq_getElem?_getD, List.getElem?_eq_getElem h]
theorem chs_text {a : Nat} (h : a ≠ 0) : dtext a = (chs (d10 a)).reverse.map UInt8.ofNat := by
  unfold dtext chs
  rw [if_neg h, List.map_reverse, List.map_map]; rfl
theorem short9 {w : World} {u : Value} {k : Nat} (hu : RV w u (dig k)) :
    Calls Tryz.prog 157 #[u, .int .u32 1000000000] w fun e w' => ∃ r, e = .returned (.tuple #[r, .int .u32 ((k % 1000000000 : Nat) : Int)]) ∧ OV w.heap.size w' r (dig (k / 1000000000)) ∧ Ext w w' := by
  have h := short_calls (y := 1000000000) hu (by decide) (by decide)
  rw [val_dig] at h
  exact h
theorem pow10_any {a n m : Nat} (h : a < 4294967296 ^ n) (hm : 10 * n ≤ m) : a < 10 ^ m := by
  have h2 : (4294967296 : Nat) ^ n ≤ 10 ^ (10 * n) := by rw [Nat.pow_mul]; exact Nat.pow_le_pow_left (by decide) n
  exact Nat.lt_of_lt_of_le h (Nat.le_trans h2 (Nat.pow_le_pow_right (by decide) hm))
theorem pow10_512 {a : Nat} (h : (dig a).length ≤ 512) : a < 10 ^ (9 * (600 - 0)) := by
  generalize hk : 9 * (600 - 0) = k
  exact pow10_any (lt_of_dig_length h) (by omega)
theorem text_down {k j : Nat} (h : k < 10 ^ (9 * (600 - j))) (hk : 0 < k) : j < 600 ∧ k / 1000000000 < 10 ^ (9 * (600 - (j + 1))) := by
  have hj : j < 600 := by
    rcases Nat.lt_or_ge j 600 with h' | h'
    · exact h'
    · rw [show 600 - j = 0 from by omega] at h; simp at h; omega
  refine ⟨hj, ?_⟩
  rw [show 9 * (600 - j) = 9 * (600 - (j + 1)) + 9 from by omega, Nat.pow_add] at h
  exact Nat.div_lt_of_lt_mul (by rw [Nat.mul_comm]; exact h)
theorem text_digit {zs : List Nat} {rr X : Nat} (h : v10 zs + 10 ^ zs.length * rr = X) : v10 (zs ++ [rr % 10]) + 10 ^ (zs ++ [rr % 10]).length * (rr / 10) = X := by
  rw [v10_snoc, List.length_append, List.length_singleton, Nat.pow_succ, ← h, Nat.add_assoc, Nat.mul_assoc, ← Nat.mul_add]
  congr 2; omega
theorem text_rest {rr t : Nat} (h : rr < 10 ^ (9 - t)) (ht : t < 9) : rr / 10 < 10 ^ (9 - (t + 1)) := by
  rw [show 9 - t = 9 - (t + 1) + 1 from by omega, Nat.pow_succ] at h
  exact Nat.div_lt_of_lt_mul (by rw [Nat.mul_comm]; exact h)
theorem text_chunk {zs zs' : List Nat} {a k : Nat} (h : a = v10 zs + 10 ^ zs.length * k) (hl : zs'.length = zs.length + 9)
    (hv : v10 zs' + 10 ^ zs'.length * 0 = v10 zs + 10 ^ zs.length * (k % 1000000000)) : a = v10 zs' + 10 ^ zs'.length * (k / 1000000000) := by
  have e : (10 : Nat) ^ 9 = 1000000000 := rfl
  rw [Nat.mul_zero, Nat.add_zero] at hv
  rw [hv, hl, Nat.pow_add, e, h, Nat.add_assoc, Nat.mul_assoc, ← Nat.mul_add]
  congr 2; omega

set_option maxHeartbeats 2000000 in
theorem Text_calls {w : World} {u : Value} {a : Nat} (h : NV w u a) :
    Calls Tryz.prog 139 #[u] w fun e w' => e = .returned (.tuple #[.string ⟨(dtext a).toArray⟩, .int .i64 0]) ∧ Ext w w' := by
  obtain ⟨h, h5⟩ := h
  obtain ⟨A, c, rfl, hc, hd, hr⟩ := id h
  have H := Aside.mk h
  have HM : Aside (natErr (dig a) = 0) := ⟨natErr_dig0 h5⟩
  have H5 := Aside.mk h5
  rcases Nat.eq_zero_or_pos a with rfl | ha
  · have h0 : (dig 0).length = 0 := by rw [dig_zero]; rfl
    clear hr hd h
    rw [h0] at hc H ⊢
    have HT : Aside (dtext 0 = [48]) := ⟨by simp [dtext]⟩
    rw [HT.out]
    go_enter Tryz.func139, Tryz.ntmps139
    go_wp2_with (go_at_call 136; refine (form1_calls H.out HM.out).mono ?_; rintro e w' ⟨rfl, rfl⟩)
    go_ret2
    exact ⟨rfl, (Ext.refl w).alloc _⟩
  · have hln : 0 < (dig a).length := by
      have : dig a ≠ [] := fun e => by have := dig_nil_iff.1 e; omega
      exact List.length_pos_iff.2 this
    obtain ⟨n, hn⟩ : ∃ n, (dig a).length = n := ⟨_, rfl⟩
    have HA := Aside.mk ha
    have HN := Aside.mk hn
    rw [hn] at hc h5 hln H ⊢
    have hnz : ((n : Int) == 0) = false := by simp; omega
    clear hr hd h hn ha
    go_enter Tryz.func139, Tryz.ntmps139
    go_wp2_with (first | (go_at_call 136; refine (form1_calls H.out HM.out).mono ?_; rintro e w' ⟨rfl, rfl⟩) | (go_at_call 129; refine (clone_calls (H.out.ext ((Ext.refl w).alloc _))).mono ?_; rintro e w1 ⟨r, rfl, hr, he⟩; have HB0 : Aside (Ext w w1) := ⟨((Ext.refl w).alloc _).trans he⟩; have HB0' := Aside.mk (((Ext.refl w).alloc (.cells #[.slice A n c] 81)).size); have HR := Aside.mk hr; have hrf := hr.form; clear hr he))
    obtain ⟨A1, c1, rfl, _⟩ := hrf
    go_loopg [0, 5] a (fun k x out wr => ∃ A n c zs j, x = .slice A n c ∧ n ≤ 512 ∧ Aside (n = (dig k).length) ∧ Aside (OV w.heap.size wr (.slice A n c) (dig k)) ∧ Aside (OB w.heap.size wr out (chs zs)) ∧ Aside (Ext w wr) ∧ Aside (D10 zs) ∧ Aside (a = v10 zs + 10 ^ zs.length * k) ∧ Aside (Apart (.slice A n c) out) ∧ Aside (zs.length = 9 * j) ∧ Aside (k < 10 ^ (9 * (600 - j))))
    case atStart => exact ⟨_, _, _, [], 0, rfl, by rw [HN.out]; exact h5, ⟨rfl⟩, ⟨HR.out.mono HB0'.out⟩, ⟨OB.nil _ _⟩, HB0, ⟨D10.nil⟩, ⟨by simp [v10]⟩, ⟨Apart.nil _⟩, ⟨rfl⟩, ⟨pow10_512 H5.out⟩⟩
    case round =>
      obtain ⟨A2, n2, c2, zs, j, rfl, hn2, HN2, HX, HO, HB, HD, HV, HA2, HJ, HK⟩ := hrel
      rcases Nat.eq_zero_or_pos n2 with rfl | hn0
      · have hkz : gk = 0 := dig_nil_iff.1 (List.eq_nil_of_length_eq_zero HN2.out.symm)
        have hva : a = v10 zs := by have := HV.out; rw [hkz, Nat.mul_zero, Nat.add_zero] at this; exact this
        have HT : Aside (trimTo zs zs.length = d10 a) := ⟨by rw [trimTo_d10 HD.out _ (Nat.le_refl _), List.take_length, ← hva]⟩
        obtain ⟨A5, c5, rfl, _⟩ := HO.out.form
        have hz0 : 0 < zs.length := by
          rcases Nat.eq_zero_or_pos zs.length with h | h
          · have := List.eq_nil_of_length_eq_zero h
            rw [this] at hva; simp [v10] at hva; have := HA.out; omega
          · exact h
        obtain ⟨g, c6, heq, hbg, _, hcap, _⟩ := HO.out.row (by rw [chs_length]; exact hz0)
        injection heq with e1 e2 e3
        subst e1 e3
        rw [chs_length] at HO hcap ⊢
        have HO0 : Aside (OB w.heap.size wr (.slice (some ⟨g, 0, none⟩) zs.length c5) (chs zs)) := HO
        have hzl : zs.length ≤ 1073741824 := by have := HO.out.1.1; rwa [chs_length] at this
        clear hkz hva hz0
        go_wp2
        go_loop [5] (fun v => ∃ k : Nat, k ≤ zs.length ∧ v = .slice (some ⟨g, 0, none⟩) k c5 ∧ Aside (trimTo zs zs.length = trimTo zs k)) (fun v => match v with | .slice _ k _ => k | _ => 0)
        case atStart => exact ⟨_, Nat.le_refl _, rfl, ⟨rfl⟩⟩
        case round =>
          obtain ⟨k, hk, rfl, HK'⟩ := hrel
          cases k with
          | zero =>
            exfalso
            have h1 := HT.out
            rw [HK'.out] at h1
            have h2 := d10_nil_iff.1 (h1.symm.trans (by simp [trimTo]))
            have := HA.out; omega
          | succ k =>
            have hcell := HO0.out.cell k (by rw [chs_length]; omega)
            rw [chs_getD (by omega)] at hcell
            by_cases h0 : zs.getD k 0 = 0
            · rw [h0] at hcell
              have HK2 : Aside (trimTo zs zs.length = trimTo zs k) := ⟨by rw [HK'.out, trimTo, if_pos h0]⟩
              clear h0 HK'
              go_wp2
              go_round
              case rel => exact ⟨k, by omega, rfl, HK2⟩
              case measure => simp
            · have h00 : (((48 + zs.getD k 0 : Nat) : Int) == 48) = false := beq_eq_false_iff_ne.2 (by omega)
              have HK2 : Aside (d10 a = zs.take (k + 1)) := ⟨by rw [← HT.out, HK'.out, trimTo, if_neg h0]⟩
              obtain ⟨y, hy⟩ : ∃ y, 48 + zs.getD k 0 = y := ⟨_, rfl⟩
              rw [hy] at hcell h00
              have HO5 : Aside (OB w.heap.size wr (.slice (some ⟨g, 0, none⟩) (k + 1) c5) (chs (d10 a))) := ⟨by
                have := HO0.out.take (k + 1) (by rw [chs_length]; omega)
                rw [HK2.out]
                simpa [chs, List.map_take] using this⟩
              have HT2 : Aside (dtext a = (chs (d10 a)).reverse.map UInt8.ofNat) := ⟨chs_text (by have := HA.out; omega)⟩
              clear h0 HK' hy
              go_wp2_with (go_at_call 158; refine (reverse_n HO5.out HB.out hbg).mono ?_; rintro e w5 ⟨rfl, hr, he⟩; have hcv := hr.text _ HT2.out; have HE5 := Aside.mk he; clear hr he)
              go_ret2
              exact ⟨rfl, HE5.out⟩
      · have hkp : 0 < gk := by
          rcases Nat.eq_zero_or_pos gk with h | h
          · exfalso
            have := HN2.out
            rw [h, dig_zero] at this; simp at this; omega
          · exact h
        obtain ⟨hj6, hkd⟩ := text_down HK.out hkp
        have HKD := Aside.mk hkd
        have HKP := Aside.mk hkp
        obtain ⟨r0, hr0⟩ : ∃ r, gk % 1000000000 = r := ⟨_, rfl⟩
        have hr9 : r0 ≤ 999999999 := by omega
        have HR0 := Aside.mk hr0
        clear hkd hkp hr0
        go_wp2_with (go_at_call 157; refine (short9 HX.out.rv).mono ?_; rw [HR0.out]; rintro e w2 ⟨r, rfl, hr, he⟩; have HE2 := Aside.mk (HB.out.trans he); have HX2 := Aside.mk (hr.mono HB.out.size); have HO2 := Aside.mk (HO.out.ext he); have HA3 := Aside.mk (Apart.fresh hr HO.out); obtain ⟨A3, c3, rfl, _⟩ := hr.form; clear hr he)
        generalize hlq : (dig (gk / 1000000000)).length = lq at *
        have HLQ := Aside.mk hlq
        clear hlq
        go_loopw [5, 6, 26] (fun out r i wr' => ∃ (t rr : Nat) (zs' : List Nat), t ≤ 9 ∧ i = .int .i64 (t : Int) ∧ r = .int .u32 (rr : Int) ∧ rr ≤ 999999999 ∧ Aside (rr < 10 ^ (9 - t)) ∧ Aside (OB w.heap.size wr' out (chs zs')) ∧ Aside (Ext w wr') ∧ Aside (D10 zs') ∧ Aside (zs'.length = zs.length + t) ∧ Aside (v10 zs' + 10 ^ zs'.length * rr = v10 zs + 10 ^ zs.length * r0) ∧ Aside (OV w.heap.size wr' (.slice A3 lq c3) (dig (gk / 1000000000))) ∧ Aside (Apart (.slice A3 lq c3) out)) (fun _ _ i _ => 9 - (intOf i).toNat)
        case atStart => exact ⟨0, r0, zs, by omega, rfl, rfl, hr9, ⟨by omega⟩, HO2, HE2, HD, ⟨rfl⟩, ⟨rfl⟩, HX2, HA3⟩
        case round =>
          obtain ⟨t, rr, zs', ht, rfl, rfl, hrr, HRR, HO3, HE3, HD3, HL3, HV3, HX3, HA4⟩ := hrel
          by_cases hlt : t < 9
          · have hzl : zs'.length < 1073741824 := by have := HL3.out; have := HJ.out; omega
            have HZL := Aside.mk hzl
            clear hzl
            go_wp2_with (at_builtin; (refine append_u8 w.heap.size rfl _ _ rfl _ (chs zs') (48 + rr % 10) _ ?hz HO3.out rfl rfl (by omega) HE3.out.size ?hl ?_; (case hz => omega); (case hl => rw [chs_length]; exact HZL.out); intro z1 w3 hz1 hg1 hb1; have HE4 := Aside.mk (HO3.out.ext_grown HE3.out (Nat.le_refl _) hg1); have HO4 := Aside.mk hz1; have HX4 := Aside.mk (HX3.out.other hg1 HA4.out); have HA5 := Aside.mk (HA4.out.append HX3.out hb1); clear hz1 hg1 hb1))
            go_roundw
            case rel =>
              refine ⟨t + 1, rr / 10, zs' ++ [rr % 10], by omega, by go_num, by congr 1, by omega, ⟨text_rest HRR.out hlt⟩, ⟨by rw [chs_snoc]; exact HO4.out⟩, HE4, ⟨HD3.out.snoc (Nat.mod_lt _ (by decide))⟩, ⟨by simp [HL3.out]; omega⟩, ⟨text_digit HV3.out⟩, HX4, HA5⟩
            case measure => simp [intOf]; omega
          · have ht9 : t = 9 := by omega
            subst ht9
            have hrz : rr = 0 := by have := HRR.out; simp at this; exact this
            subst hrz
            have HV4 : Aside (a = v10 zs' + 10 ^ zs'.length * (gk / 1000000000)) := ⟨text_chunk HV.out HL3.out (by rw [HV3.out, HR0.out])⟩
            go_wp2
            go_roundg (gk / 1000000000)
            case rel => exact ⟨A3, lq, c3, zs', j + 1, rfl, by rw [← HLQ.out]; exact Nat.le_trans (dig_len_mono (Nat.div_le_self _ _)) (by rw [← HN2.out]; exact hn2), ⟨HLQ.out.symm⟩, HX3, HO3, HE3, HD3, HV4, HA4, ⟨by rw [HL3.out, HJ.out]; omega⟩, HKD⟩
            case measure => have := HKP.out; omega
end Go.Proofs.YtcbaipnphepbeaaGreatDoor

namespace Go.Proofs.YtcbaipnphepbeaaGreatDoor
open Go.RowKit

/-- The texts of faults. -/
def rangeB : ByteArray := ⟨#[33, 114, 97, 110, 103, 101]⟩
def zeroB : ByteArray := ⟨#[33, 122, 101, 114, 111]⟩
/-- What the calls read of package-level variables. -/
structure Glob (w : World) : Prop where
  c0 : w.cell? ⟨1, 0, none⟩ = some (.string rangeB)
  c1 : w.cell? ⟨1, 1, none⟩ = some (.int .i64 4)
  c2 : w.cell? ⟨1, 2, none⟩ = some (.string zeroB)
  c3 : w.cell? ⟨1, 3, none⟩ = some (.int .i64 11)
  c4 : ∃ m, w.cell? ⟨2, 0, none⟩ = some (.int .i64 m)
theorem Glob.ext {w w' : World} (h : Glob w) (e : Ext w w') : Glob w' := ⟨e.cell h.c0, e.cell h.c1, e.cell h.c2, e.cell h.c3, h.c4.imp fun _ k => e.cell k⟩

def toldv : Value := .agg #[.string rangeB, .int .i64 4, .string zeroB, .int .i64 11]
theorem told0 : ∀ w, (Instr.index 143 toldv (.int .i64 0)).run Tryz.prog w = .ok (.agg #[.string rangeB, .int .i64 4]) w := fun _ => by kernel_rfl
theorem told1 : ∀ w, (Instr.index 143 toldv (.int .i64 1)).run Tryz.prog w = .ok (.agg #[.string zeroB, .int .i64 11]) w := fun _ => by kernel_rfl
theorem told_size : (Tryz.prog.info? 143).map (·.size) = some 4 := by kernel_rfl
theorem run_told {w : World} (h : Glob w) : (loadVar 143 ⟨1, 0, none⟩).run Tryz.prog w = .ok toldv w := by
  have hl : (loadCells ⟨1, 0, none⟩ 4).run Tryz.prog w = .ok #[.string rangeB, .int .i64 4, .string zeroB, .int .i64 11] w :=
    run_loadCells_list (P := Tryz.prog) w ⟨1, 0, none⟩ [.string rangeB, .int .i64 4, .string zeroB, .int .i64 11] (fun j v hv => by
      rw [add_plain]
      match j, hv with
      | 0, hv => cases hv; exact h.c0
      | 1, hv => cases hv; exact h.c1
      | 2, hv => cases hv; exact h.c2
      | 3, hv => cases hv; exact h.c3)
  have hagg : (isAgg 143).run Tryz.prog w = .ok true w := by
    unfold isAgg
    rw [Sem.run_bind, run_underlying Tryz.underlying143 w]
    rfl
  cases hq : Tryz.prog.info? 143 with
  | none => have := told_size; rw [hq] at this; cases this
  | some i =>
    have hs : i.size = 4 := by have := told_size; rw [hq] at this; simpa using this
    simp [loadVar, Sem.run_bind, hagg, sizeOf, typeInfo, hq, hs, hl, toldv]
theorem load_told {ops : Array Oper} {rest : List Oper} {o : Oper} {a : Act} {w : World} {Q : Exit → Act → World → Prop} (hgd : o.guard = none) (x : Operand) (ho : o.op = .load 143 x)
    (hx : a.eval x = .pointer (some ⟨1, 0, none⟩)) (hg : Glob w)
    (h : wpList Tryz.prog ops Q rest (a.put o.dst toldv) w) : wpList Tryz.prog ops Q (o :: rest) a w := by
  refine wpList_plain hgd fun _ hK => ?_
  unfold Oper.wp execOp
  simp only [ho, hx, Instr.loadAt, Instr.sureAddr, Sem.run_bind, Sem.run_pure, Result.andThen_ok, run_told hg]
  exact hK _ _ h

def faultB (f : Int) : ByteArray := if f = 4 then rangeB else zeroB
set_option maxRecDepth 10000 in
set_option maxHeartbeats 1000000 in
theorem text_fault {w : World} {v : Value} {q : Rq} (hg : Glob w) (h : RR w v q) (hq : okq q = true) (hf : q.f ≠ 0) :
    Calls Tryz.prog 111 #[v] w fun e w' => e = .returned (.tuple #[.string (faultB q.f), .int .i64 0]) ∧ Ext w w' := by
  have HA := Aside.mk h
  have HG := Aside.mk hg
  have HOA := Aside.mk hq
  have hc : q.f = 4 ∨ q.f = 11 := by
    unfold okq at hq; rw [if_neg hf] at hq
    simp only [Bool.and_eq_true, Bool.or_eq_true, beq_iff_eq] at hq
    exact hq.1.1
  obtain ⟨A, c, B, d, rfl⟩ := h.form
  have hk0 := KeepB.init w (.int .i64 q.f) (.bool q.neg) (.slice A q.num.length c) (.slice B q.den.length d) 83
  obtain ⟨f, hff⟩ : ∃ f, q.f = f := ⟨_, rfl⟩
  rw [hff] at hc hk0 HA ⊢
  have i0 := told0
  have i1 := told1
  clear h hg hq hf hff
  rcases hc with rfl | rfl
  · have HF : Aside (faultB 4 = rangeB) := ⟨rfl⟩
    rw [HF.out]
    go_enter Tryz.func111, Tryz.ntmps111
    go_wp2_with (first | (go_at_call 61; refine (israt_b (HA.out.ext hk0.1.out) HOA.out).mono ?_; rintro e w1 ⟨rfl, he⟩; have hk1 := KeepB.ext he hk0; clear hk0 he) | (refine load_told rfl _ rfl rfl (HG.out.ext hk1.1.out) ?_))
    go_loopw [14] (fun i wr => i = .int .i64 0 ∧ KeepB w (.int .i64 4) (.bool q.neg) (.slice A q.num.length c) (.slice B q.den.length d) wr) (fun i _ => 2 - (intOf i).toNat)
    case atStart => exact ⟨rfl, hk1⟩
    case round =>
      obtain ⟨rfl, hk2⟩ := hrel
      have hk3 := KeepB.ext ((Ext.refl wr).alloc (.cells #[.string rangeB, .int .i64 4] 142)) hk2
      clear hk2
      go_wp2
      go_ret2
      exact ⟨rfl, hk3.1.out⟩
  · have HF : Aside (faultB 11 = zeroB) := ⟨rfl⟩
    rw [HF.out]
    go_enter Tryz.func111, Tryz.ntmps111
    go_wp2_with (first | (go_at_call 61; refine (israt_b (HA.out.ext hk0.1.out) HOA.out).mono ?_; rintro e w1 ⟨rfl, he⟩; have hk1 := KeepB.ext he hk0; clear hk0 he) | (refine load_told rfl _ rfl rfl (HG.out.ext hk1.1.out) ?_))
    go_loopw [14] (fun i wr => ∃ (k : Nat), k ≤ 1 ∧ i = .int .i64 (k : Int) ∧ KeepB w (.int .i64 11) (.bool q.neg) (.slice A q.num.length c) (.slice B q.den.length d) wr) (fun i _ => 2 - (intOf i).toNat)
    case atStart => exact ⟨0, by omega, rfl, hk1⟩
    case round =>
      obtain ⟨k, hk, rfl, hk2⟩ := hrel
      rcases Nat.eq_zero_or_pos k with rfl | hk0
      · have hk3 := KeepB.ext ((Ext.refl wr).alloc (.cells #[.string rangeB, .int .i64 4] 142)) hk2
        clear hk2
        go_wp2
        go_roundw
        case rel => exact ⟨1, by omega, rfl, hk3⟩
        case measure => simp [intOf]
      · obtain rfl : k = 1 := by omega
        have hk3 := KeepB.ext ((Ext.refl wr).alloc (.cells #[.string zeroB, .int .i64 11] 142)) hk2
        clear hk2
        go_wp2
        go_ret2
        exact ⟨rfl, hk3.1.out⟩

/-- The text of a number. -/
def ntext (neg : Bool) (a b : Nat) : List UInt8 := (if neg then [45] else []) ++ dtext a ++ (if b = 1 then [] else 47 :: dtext b)
theorem bcat (x y : List UInt8) : (⟨x.toArray⟩ ++ ⟨y.toArray⟩ : ByteArray) = ⟨(x ++ y).toArray⟩ := by
  apply ByteArray.ext
  rw [ByteArray.data_append]
  simp
theorem dtext_any {a n m : Nat} (h : a < 4294967296 ^ n) (hm : 10 * n ≤ m) (h0 : 0 < m) : (dtext a).length ≤ m := dtext_length (pow10_any h hm) h0
theorem dtext_le {a : Nat} (h : (dig a).length ≤ 128) : (dtext a).length ≤ 1280 := dtext_any (lt_of_dig_length h) (by decide) (by decide)
set_option maxRecDepth 10000 in
set_option maxHeartbeats 4000000 in
theorem text_num {w : World} {v : Value} {neg : Bool} {a b : Nat} (hg : Glob w) (h : RR w v ⟨0, neg, dig a, dig b⟩) (hq : okq ⟨0, neg, dig a, dig b⟩ = true) (ha : (dig a).length ≤ 128) (hb : (dig b).length ≤ 128) (hb0 : 0 < b) :
    Calls Tryz.prog 111 #[v] w fun e w' => e = .returned (.tuple #[.string ⟨(ntext neg a b).toArray⟩, .int .i64 0]) ∧ Ext w w' := by
  have HA := Aside.mk h
  have HG := Aside.mk hg
  have HOA := Aside.mk hq
  obtain ⟨x, y, rfl, hx, hy⟩ := h
  dsimp only at *
  have HXA := Aside.mk (NV.of hx (by omega))
  have HYA := Aside.mk (NV.of hy (by omega))
  have hl1 : (dtext a).length ≤ 1280 := dtext_le ha
  have hl2 : (dtext b).length ≤ 1280 := dtext_le hb
  obtain ⟨A, c, rfl, _⟩ := hx
  obtain ⟨B, d, rfl, hcd, _, hr⟩ := hy
  obtain ⟨k, hk⟩ : ∃ k, (dig b).length = k + 1 := ⟨(dig b).length - 1, by
    have : (dig b).length ≠ 0 := fun h => by have := dig_nil_iff.1 (List.eq_nil_of_length_eq_zero h); omega
    omega⟩
  obtain ⟨t, ht⟩ : ∃ t, (dig b).getD 0 0 = t := ⟨_, rfl⟩
  obtain ⟨bd, rfl, hcell⟩ := Rd.at32 hr 0 (by omega)
  rw [ht, show bd.add 0 = bd from by simp [Addr.add]] at hcell
  have HDC : Aside (∀ w', Ext w w' → w'.cell? bd = some (.int .u32 (t : Int))) := ⟨fun w' e => e.cell hcell⟩
  have htb : (k = 0 ∧ t = 1 ∧ b = 1) ∨ (k = 0 ∧ ((t : Int) == 1) = false ∧ b ≠ 1) ∨ ((((k + 1 : Nat) : Int) == 1) = false ∧ b ≠ 1) := by
    have hb1 : k = 0 → b = t := by
      intro hk0
      subst hk0
      obtain ⟨z, hz⟩ := List.length_eq_one_iff.1 hk
      have := val_dig b
      rw [hz] at this ht
      simp [val] at this ht
      omega
    by_cases hk0 : k = 0
    · have := hb1 hk0
      by_cases ht1 : t = 1
      · exact .inl ⟨hk0, ht1, by omega⟩
      · exact .inr (.inl ⟨hk0, beq_eq_false_iff_ne.2 (by omega), by omega⟩)
    · refine .inr (.inr ⟨beq_eq_false_iff_ne.2 (by omega), ?_⟩)
      intro h1
      rw [h1, dig_pos (by omega), show (1 : Nat) / 4294967296 = 0 from rfl, dig_zero] at hk
      simp at hk; omega
  have hk0 := KeepB.init w (.int .i64 0) (.bool neg) (.slice A (dig a).length c) (.slice (some bd) (dig b).length d) 83
  rw [hk] at hk0 HYA HA hcd ⊢
  generalize (dig a).length = la at *
  have i0 := told0
  have i1 := told1
  clear hg hq hr hcell hk ht
  rcases htb with ⟨rfl, rfl, rfl⟩ | ⟨rfl, htz, hb1⟩ | ⟨hkz, hb1⟩
  · cases neg
    · have HS : Aside ((⟨(dtext a).toArray⟩ : ByteArray) = ⟨(ntext false a 1).toArray⟩) := ⟨by simp [ntext]⟩
      go_enter Tryz.func111, Tryz.ntmps111
      go_wp2_with (first | (go_at_call 61; refine (israt_b (HA.out.ext hk0.1.out) HOA.out).mono ?_; rintro e w1 ⟨rfl, he⟩; have hk1 := KeepB.ext he hk0; clear hk0 he) | (refine load_told rfl _ rfl rfl (HG.out.ext hk1.1.out) ?_))
      go_loopw [14] (fun i wr => ∃ (j : Nat), j ≤ 2 ∧ i = .int .i64 (j : Int) ∧ KeepB w (.int .i64 0) (.bool false) (.slice A la c) (.slice (some bd) (0 + 1) d) wr) (fun i _ => 2 - (intOf i).toNat)
      case atStart => exact ⟨0, by omega, rfl, hk1⟩
      case round =>
        obtain ⟨j, hj, rfl, hk2⟩ := hrel
        obtain rfl | rfl | rfl : j = 0 ∨ j = 1 ∨ j = 2 := by omega
        · have hk3 := KeepB.ext ((Ext.refl wr).alloc (.cells #[.string rangeB, .int .i64 4] 142)) hk2
          clear hk2
          go_wp2
          go_roundw
          case rel => exact ⟨1, by omega, rfl, hk3⟩
          case measure => simp [intOf]
        · have hk3 := KeepB.ext ((Ext.refl wr).alloc (.cells #[.string zeroB, .int .i64 11] 142)) hk2
          clear hk2
          go_wp2
          go_roundw
          case rel => exact ⟨2, by omega, rfl, hk3⟩
          case measure => simp [intOf]
        · go_wp2_with (first | (go_at_call 139; refine (Text_calls (HXA.out.ext hk2.1.out)).mono ?_; rintro e w2 ⟨rfl, he⟩; have hk3 := KeepB.ext he hk2; have hc3 := HDC.out _ hk3.1.out; clear hk2 he) | (go_at_call 139; refine (Text_calls (HYA.out.ext hk3.1.out)).mono ?_; rintro e w3 ⟨rfl, he⟩; have hk4 := KeepB.ext he hk3; clear hk3 he))
          go_ret2
          exact ⟨by rw [← HS.out]; rfl, hk3.1.out⟩
    · have HS : Aside ((⟨#[45]⟩ ++ ⟨(dtext a).toArray⟩ : ByteArray) = ⟨(ntext true a 1).toArray⟩) := ⟨by rw [show (⟨#[45]⟩ : ByteArray) = ⟨[45].toArray⟩ from rfl, bcat]; simp [ntext]⟩
      go_enter Tryz.func111, Tryz.ntmps111
      go_wp2_with (first | (go_at_call 61; refine (israt_b (HA.out.ext hk0.1.out) HOA.out).mono ?_; rintro e w1 ⟨rfl, he⟩; have hk1 := KeepB.ext he hk0; clear hk0 he) | (refine load_told rfl _ rfl rfl (HG.out.ext hk1.1.out) ?_))
      go_loopw [14] (fun i wr => ∃ (j : Nat), j ≤ 2 ∧ i = .int .i64 (j : Int) ∧ KeepB w (.int .i64 0) (.bool true) (.slice A la c) (.slice (some bd) (0 + 1) d) wr) (fun i _ => 2 - (intOf i).toNat)
      case atStart => exact ⟨0, by omega, rfl, hk1⟩
      case round =>
        obtain ⟨j, hj, rfl, hk2⟩ := hrel
        obtain rfl | rfl | rfl : j = 0 ∨ j = 1 ∨ j = 2 := by omega
        · have hk3 := KeepB.ext ((Ext.refl wr).alloc (.cells #[.string rangeB, .int .i64 4] 142)) hk2
          clear hk2
          go_wp2
          go_roundw
          case rel => exact ⟨1, by omega, rfl, hk3⟩
          case measure => simp [intOf]
        · have hk3 := KeepB.ext ((Ext.refl wr).alloc (.cells #[.string zeroB, .int .i64 11] 142)) hk2
          clear hk2
          go_wp2
          go_roundw
          case rel => exact ⟨2, by omega, rfl, hk3⟩
          case measure => simp [intOf]
        · go_wp2_with (first | (go_at_call 139; refine (Text_calls (HXA.out.ext hk2.1.out)).mono ?_; rintro e w2 ⟨rfl, he⟩; have hk3 := KeepB.ext he hk2; have hc3 := HDC.out _ hk3.1.out; clear hk2 he) | (go_at_call 139; refine (Text_calls (HYA.out.ext hk3.1.out)).mono ?_; rintro e w3 ⟨rfl, he⟩; have hk4 := KeepB.ext he hk3; clear hk3 he))
          go_ret2
          exact ⟨by rw [← HS.out]; rfl, hk3.1.out⟩
  · have hbb : ntext false a b = dtext a ++ ([47] ++ dtext b) := by simp [ntext, hb1]
    have hbt : ntext true a b = 45 :: (dtext a ++ ([47] ++ dtext b)) := by simp [ntext, hb1]
    cases neg
    · have HS : Aside ((⟨(dtext a).toArray⟩ ++ ⟨#[47]⟩ ++ ⟨(dtext b).toArray⟩ : ByteArray) = ⟨(ntext false a b).toArray⟩) := ⟨by rw [show (⟨#[47]⟩ : ByteArray) = ⟨[47].toArray⟩ from rfl, bcat, bcat, hbb, List.append_assoc]⟩; clear hbb hbt hb1
      go_enter Tryz.func111, Tryz.ntmps111
      go_wp2_with (first | (go_at_call 61; refine (israt_b (HA.out.ext hk0.1.out) HOA.out).mono ?_; rintro e w1 ⟨rfl, he⟩; have hk1 := KeepB.ext he hk0; clear hk0 he) | (refine load_told rfl _ rfl rfl (HG.out.ext hk1.1.out) ?_))
      go_loopw [14] (fun i wr => ∃ (j : Nat), j ≤ 2 ∧ i = .int .i64 (j : Int) ∧ KeepB w (.int .i64 0) (.bool false) (.slice A la c) (.slice (some bd) (0 + 1) d) wr) (fun i _ => 2 - (intOf i).toNat)
      case atStart => exact ⟨0, by omega, rfl, hk1⟩
      case round =>
        obtain ⟨j, hj, rfl, hk2⟩ := hrel
        obtain rfl | rfl | rfl : j = 0 ∨ j = 1 ∨ j = 2 := by omega
        · have hk3 := KeepB.ext ((Ext.refl wr).alloc (.cells #[.string rangeB, .int .i64 4] 142)) hk2
          clear hk2
          go_wp2
          go_roundw
          case rel => exact ⟨1, by omega, rfl, hk3⟩
          case measure => simp [intOf]
        · have hk3 := KeepB.ext ((Ext.refl wr).alloc (.cells #[.string zeroB, .int .i64 11] 142)) hk2
          clear hk2
          go_wp2
          go_roundw
          case rel => exact ⟨2, by omega, rfl, hk3⟩
          case measure => simp [intOf]
        · go_wp2_with (first | (go_at_call 139; refine (Text_calls (HXA.out.ext hk2.1.out)).mono ?_; rintro e w2 ⟨rfl, he⟩; have hk3 := KeepB.ext he hk2; have hc3 := HDC.out _ hk3.1.out; clear hk2 he) | (go_at_call 139; refine (Text_calls (HYA.out.ext hk3.1.out)).mono ?_; rintro e w3 ⟨rfl, he⟩; have hk4 := KeepB.ext he hk3; clear hk3 he))
          go_ret2
          exact ⟨by rw [← HS.out]; rfl, hk4.1.out⟩
    · have HS : Aside ((⟨#[45]⟩ ++ ⟨(dtext a).toArray⟩ ++ ⟨#[47]⟩ ++ ⟨(dtext b).toArray⟩ : ByteArray) = ⟨(ntext true a b).toArray⟩) := ⟨by rw [show (⟨#[47]⟩ : ByteArray) = ⟨[47].toArray⟩ from rfl, show (⟨#[45]⟩ : ByteArray) = ⟨[45].toArray⟩ from rfl, bcat, bcat, bcat, hbt]; simp⟩; clear hbb hbt hb1
      go_enter Tryz.func111, Tryz.ntmps111
      go_wp2_with (first | (go_at_call 61; refine (israt_b (HA.out.ext hk0.1.out) HOA.out).mono ?_; rintro e w1 ⟨rfl, he⟩; have hk1 := KeepB.ext he hk0; clear hk0 he) | (refine load_told rfl _ rfl rfl (HG.out.ext hk1.1.out) ?_))
      go_loopw [14] (fun i wr => ∃ (j : Nat), j ≤ 2 ∧ i = .int .i64 (j : Int) ∧ KeepB w (.int .i64 0) (.bool true) (.slice A la c) (.slice (some bd) (0 + 1) d) wr) (fun i _ => 2 - (intOf i).toNat)
      case atStart => exact ⟨0, by omega, rfl, hk1⟩
      case round =>
        obtain ⟨j, hj, rfl, hk2⟩ := hrel
        obtain rfl | rfl | rfl : j = 0 ∨ j = 1 ∨ j = 2 := by omega
        · have hk3 := KeepB.ext ((Ext.refl wr).alloc (.cells #[.string rangeB, .int .i64 4] 142)) hk2
          clear hk2
          go_wp2
          go_roundw
          case rel => exact ⟨1, by omega, rfl, hk3⟩
          case measure => simp [intOf]
        · have hk3 := KeepB.ext ((Ext.refl wr).alloc (.cells #[.string zeroB, .int .i64 11] 142)) hk2
          clear hk2
          go_wp2
          go_roundw
          case rel => exact ⟨2, by omega, rfl, hk3⟩
          case measure => simp [intOf]
        · go_wp2_with (first | (go_at_call 139; refine (Text_calls (HXA.out.ext hk2.1.out)).mono ?_; rintro e w2 ⟨rfl, he⟩; have hk3 := KeepB.ext he hk2; have hc3 := HDC.out _ hk3.1.out; clear hk2 he) | (go_at_call 139; refine (Text_calls (HYA.out.ext hk3.1.out)).mono ?_; rintro e w3 ⟨rfl, he⟩; have hk4 := KeepB.ext he hk3; clear hk3 he))
          go_ret2
          exact ⟨by rw [← HS.out]; rfl, hk4.1.out⟩
  · have hbb : ntext false a b = dtext a ++ ([47] ++ dtext b) := by simp [ntext, hb1]
    have hbt : ntext true a b = 45 :: (dtext a ++ ([47] ++ dtext b)) := by simp [ntext, hb1]
    cases neg
    · have HS : Aside ((⟨(dtext a).toArray⟩ ++ ⟨#[47]⟩ ++ ⟨(dtext b).toArray⟩ : ByteArray) = ⟨(ntext false a b).toArray⟩) := ⟨by rw [show (⟨#[47]⟩ : ByteArray) = ⟨[47].toArray⟩ from rfl, bcat, bcat, hbb, List.append_assoc]⟩; clear hbb hbt hb1
      go_enter Tryz.func111, Tryz.ntmps111
      go_wp2_with (first | (go_at_call 61; refine (israt_b (HA.out.ext hk0.1.out) HOA.out).mono ?_; rintro e w1 ⟨rfl, he⟩; have hk1 := KeepB.ext he hk0; clear hk0 he) | (refine load_told rfl _ rfl rfl (HG.out.ext hk1.1.out) ?_))
      go_loopw [14] (fun i wr => ∃ (j : Nat), j ≤ 2 ∧ i = .int .i64 (j : Int) ∧ KeepB w (.int .i64 0) (.bool false) (.slice A la c) (.slice (some bd) (k + 1) d) wr) (fun i _ => 2 - (intOf i).toNat)
      case atStart => exact ⟨0, by omega, rfl, hk1⟩
      case round =>
        obtain ⟨j, hj, rfl, hk2⟩ := hrel
        obtain rfl | rfl | rfl : j = 0 ∨ j = 1 ∨ j = 2 := by omega
        · have hk3 := KeepB.ext ((Ext.refl wr).alloc (.cells #[.string rangeB, .int .i64 4] 142)) hk2
          clear hk2
          go_wp2
          go_roundw
          case rel => exact ⟨1, by omega, rfl, hk3⟩
          case measure => simp [intOf]
        · have hk3 := KeepB.ext ((Ext.refl wr).alloc (.cells #[.string zeroB, .int .i64 11] 142)) hk2
          clear hk2
          go_wp2
          go_roundw
          case rel => exact ⟨2, by omega, rfl, hk3⟩
          case measure => simp [intOf]
        · go_wp2_with (first | (go_at_call 139; refine (Text_calls (HXA.out.ext hk2.1.out)).mono ?_; rintro e w2 ⟨rfl, he⟩; have hk3 := KeepB.ext he hk2; have hc3 := HDC.out _ hk3.1.out; clear hk2 he) | (go_at_call 139; refine (Text_calls (HYA.out.ext hk3.1.out)).mono ?_; rintro e w3 ⟨rfl, he⟩; have hk4 := KeepB.ext he hk3; clear hk3 he))
          go_ret2
          exact ⟨by rw [← HS.out]; rfl, hk4.1.out⟩
    · have HS : Aside ((⟨#[45]⟩ ++ ⟨(dtext a).toArray⟩ ++ ⟨#[47]⟩ ++ ⟨(dtext b).toArray⟩ : ByteArray) = ⟨(ntext true a b).toArray⟩) := ⟨by rw [show (⟨#[47]⟩ : ByteArray) = ⟨[47].toArray⟩ from rfl, show (⟨#[45]⟩ : ByteArray) = ⟨[45].toArray⟩ from rfl, bcat, bcat, bcat, hbt]; simp⟩; clear hbb hbt hb1
      go_enter Tryz.func111, Tryz.ntmps111
      go_wp2_with (first | (go_at_call 61; refine (israt_b (HA.out.ext hk0.1.out) HOA.out).mono ?_; rintro e w1 ⟨rfl, he⟩; have hk1 := KeepB.ext he hk0; clear hk0 he) | (refine load_told rfl _ rfl rfl (HG.out.ext hk1.1.out) ?_))
      go_loopw [14] (fun i wr => ∃ (j : Nat), j ≤ 2 ∧ i = .int .i64 (j : Int) ∧ KeepB w (.int .i64 0) (.bool true) (.slice A la c) (.slice (some bd) (k + 1) d) wr) (fun i _ => 2 - (intOf i).toNat)
      case atStart => exact ⟨0, by omega, rfl, hk1⟩
      case round =>
        obtain ⟨j, hj, rfl, hk2⟩ := hrel
        obtain rfl | rfl | rfl : j = 0 ∨ j = 1 ∨ j = 2 := by omega
        · have hk3 := KeepB.ext ((Ext.refl wr).alloc (.cells #[.string rangeB, .int .i64 4] 142)) hk2
          clear hk2
          go_wp2
          go_roundw
          case rel => exact ⟨1, by omega, rfl, hk3⟩
          case measure => simp [intOf]
        · have hk3 := KeepB.ext ((Ext.refl wr).alloc (.cells #[.string zeroB, .int .i64 11] 142)) hk2
          clear hk2
          go_wp2
          go_roundw
          case rel => exact ⟨2, by omega, rfl, hk3⟩
          case measure => simp [intOf]
        · go_wp2_with (first | (go_at_call 139; refine (Text_calls (HXA.out.ext hk2.1.out)).mono ?_; rintro e w2 ⟨rfl, he⟩; have hk3 := KeepB.ext he hk2; have hc3 := HDC.out _ hk3.1.out; clear hk2 he) | (go_at_call 139; refine (Text_calls (HYA.out.ext hk3.1.out)).mono ?_; rintro e w3 ⟨rfl, he⟩; have hk4 := KeepB.ext he hk3; clear hk3 he))
          go_ret2
          exact ⟨by rw [← HS.out]; rfl, hk4.1.out⟩
end Go.Proofs.YtcbaipnphepbeaaGreatDoor

namespace Go.Proofs.YtcbaipnphepbeaaGreatDoor
open Go.RowKit

theorem dig_of_len {zs : List Nat} {X : Nat} (hd : Ds zs) (hv : val zs = X) (hl : zs.length ≤ (dig X).length) : zs = dig X := by
  subst hv
  refine (dig_val hd ?_).symm
  intro hne h0
  have hp := List.length_pos_iff.2 hne
  have h1 := val_take_succ zs (zs.length - 1) (by omega)
  rw [show zs.length - 1 + 1 = zs.length from by omega, List.take_length, h0, Nat.mul_zero, Nat.add_zero] at h1
  have h2 := val_lt (hd.take (zs.length - 1))
  rw [← h1, List.length_take, Nat.min_eq_left (by omega)] at h2
  have := dig_length_le h2
  omega
theorem dval_lt {l : List UInt8} (h : l.all isd = true) : dval l < 10 ^ l.length := by
  obtain ⟨xs, hd, he, hn⟩ := chars_of_all h
  have := v10_lt hd
  rw [← hn, he, dval_map_chr hd]
  exact this
theorem dval_len {l : List UInt8} (h : l.all isd = true) : (dig (dval l)).length ≤ l.length :=
  dig_length_le (Nat.lt_of_lt_of_le (dval_lt h) (Nat.pow_le_pow_left (by decide) _))
theorem take_snoc {l : List UInt8} {k : Nat} {c : UInt8} (h : l[k]? = some c) : l.take (k + 1) = l.take k ++ [c] := by
  rw [List.take_add_one, h]; rfl
theorem parse_step {zs xs : List Nat} {t cr x c0 : Nat} (ht : t < zs.length) (htx : t < xs.length) (hv : val zs + 4294967296 ^ t * cr = 10 * val (xs.take t) + c0 + 4294967296 ^ t * val (xs.drop t)) (hx : xs.getD t 0 = x) (hz : zs.getD t 0 = x) :
    val (zs.set t ((cr + 10 * x) % 4294967296)) + 4294967296 ^ (t + 1) * ((cr + 10 * x) / 4294967296) = 10 * val (xs.take (t + 1)) + c0 + 4294967296 ^ (t + 1) * val (xs.drop (t + 1)) := by
  have h1 := val_set ((cr + 10 * x) % 4294967296) ht
  rw [hz] at h1
  have h2 := val_take_succ xs t htx
  have h3 := val_drop xs t htx
  rw [hx] at h2 h3
  rw [h3] at hv
  rw [h2, Nat.pow_succ]
  generalize 4294967296 ^ t = P at *
  generalize val (xs.take t) = T at *
  generalize val (xs.drop (t + 1)) = D at *
  generalize val (zs.set t ((cr + 10 * x) % 4294967296)) = Z at *
  generalize val zs = Z0 at *
  have e : P * ((cr + 10 * x) % 4294967296) + P * 4294967296 * ((cr + 10 * x) / 4294967296) = P * (cr + 10 * x) := by
    rw [Nat.mul_assoc, ← Nat.mul_add]; congr 1; omega
  have e2 : P * (cr + 10 * x) = P * cr + 10 * (P * x) := by rw [Nat.mul_add, Nat.mul_left_comm]
  rw [Nat.mul_add] at hv
  rw [Nat.mul_add, Nat.mul_assoc P 4294967296 D]
  omega

/-- The digits that Parse returns. -/
def pdig (l : List UInt8) : List Nat := if perr l = 0 then dig (dval l) else []
theorem pdig_err {l : List UInt8} (h : perr l ≠ 0) : pdig l = [] := if_neg h
theorem pdig_ok {l : List UInt8} (h : perr l = 0) : pdig l = dig (dval l) := if_pos h

set_option maxHeartbeats 2000000 in
theorem Parse_calls {w : World} {s : ByteArray} (hs : s.size ≤ 1073741824) :
    Calls Tryz.prog 117 #[.string s] w fun e w' => ∃ r, e = .returned (.tuple #[r, .int .i64 (perr s.data.toList : Nat)]) ∧ OV w.heap.size w' r (pdig s.data.toList) ∧ Ext w w' := by
  have hsz : s.data.toList.length = s.size := (Lib.size_eq s).symm
  by_cases h49 : 4900 < s.size
  · have HP : Aside (perr s.data.toList = 3) := ⟨by unfold perr; rw [if_pos (by rw [hsz]; exact h49)]⟩
    rw [HP.out, pdig_err (by rw [HP.out]; decide)]
    clear hsz
    go_enter Tryz.func117, Tryz.ntmps117
    go_wp2
    go_ret2
    exact ⟨.slice none 0 0, rfl, OV.nil _ _, Ext.refl w⟩
  · have HN49 := Aside.mk h49
    rcases Nat.eq_zero_or_pos s.size with h0 | h0
    · have HP : Aside (perr s.data.toList = 5) := ⟨by unfold perr; rw [if_neg (by omega), if_pos (.inl (List.eq_nil_of_length_eq_zero (by omega)))]⟩
      rw [HP.out, pdig_err (by rw [HP.out]; decide)]
      have hs0 : s = ⟨#[]⟩ := by
        rw [← Lib.mk_data s, List.eq_nil_of_length_eq_zero (hsz.trans h0)]
      subst hs0
      clear hsz h49 hs
      go_enter Tryz.func117, Tryz.ntmps117
      go_wp2
      go_ret2
      exact ⟨.slice none 0 0, rfl, OV.nil _ _, Ext.refl w⟩
    · have hd0 : s.data.toList[0]? = some s[0] := Lib.data_getElem? s 0 h0
      have hz1 : s.size ≠ 0 := by omega
      by_cases hz : s[0] = 48 ∧ 1 < s.size
      · have HP : Aside (perr s.data.toList = 5) := ⟨by
          unfold perr
          rw [if_neg (by omega), if_pos (.inr ⟨by rw [List.head?_eq_getElem?, hd0, hz.1], by omega⟩)]⟩
        rw [HP.out, pdig_err (by rw [HP.out]; decide)]
        have hb : (((s[0].toNat : Nat) : Int) == 48) = true := by rw [hz.1]; rfl
        have hz2 := hz.2
        have hemp : s.toList.isEmpty = false := by rw [Lib.toList_data]; cases hh : s.data.toList <;> simp_all
        clear hsz hz hd0
        go_enter Tryz.func117, Tryz.ntmps117
        go_wp2
        go_ret2
        exact ⟨.slice none 0 0, rfl, OV.nil _ _, Ext.refl w⟩
      · have hemp : s.toList.isEmpty = false := by rw [Lib.toList_data]; cases hh : s.data.toList <;> simp_all
        have HPE : Aside (perr s.data.toList = if s.data.toList.all isd then 0 else 5) := ⟨by
          unfold perr
          rw [if_neg (by omega), if_neg]
          rintro (h | ⟨h1, h2⟩)
          · rw [h] at hsz; simp at hsz; omega
          · rw [List.head?_eq_getElem?, hd0] at h1
            exact hz ⟨by simpa using h1, by omega⟩⟩
        have hcase : ((((s[0].toNat : Nat) : Int) == 48) = true ∧ s.size ≤ 1) ∨ (((s[0].toNat : Nat) : Int) == 48) = false := by
          cases hb : (((s[0].toNat : Nat) : Int) == 48)
          · exact .inr rfl
          · refine .inl ⟨rfl, ?_⟩
            rcases Nat.lt_or_ge 1 s.size with h1 | h1
            · exfalso; apply hz
              refine ⟨?_, h1⟩
              apply UInt8.toNat_inj.1
              have : (48 : UInt8).toNat = 48 := rfl
              have := eq_of_beq hb
              omega
            · exact h1
        have HSZ := Aside.mk hsz
        clear hsz hz hd0
        rcases hcase with ⟨hb, h1⟩ | hb
        all_goals
          go_enter Tryz.func117, Tryz.ntmps117
          go_wp2
          go_loopw [4, 28] (fun out i wr => ∃ (k : Nat), k ≤ s.size ∧ i = .int .i64 (k : Int) ∧ Aside (OV w.heap.size wr out (dig (dval (s.data.toList.take k)))) ∧ Aside ((s.data.toList.take k).all isd = true) ∧ Aside (Ext w wr)) (fun _ i _ => s.size - (intOf i).toNat)
          case atStart => exact ⟨0, Nat.zero_le _, rfl, ⟨by simp [dval, dig_zero]; exact OV.nil _ _⟩, ⟨by simp⟩, ⟨Ext.refl w⟩⟩
          case round =>
            obtain ⟨k, hk, rfl, HO, HD, HB⟩ := hrel
            by_cases hlt : k < s.size
            · have hdk : s.data.toList[k]? = some s[k] := Lib.data_getElem? s k hlt
              obtain ⟨c, hc⟩ : ∃ c, s[k] = c := ⟨_, rfl⟩
              rw [hc] at hdk
              have HDK := Aside.mk hdk
              have hcn : c.toNat < 256 := c.toNat_lt
              obtain ⟨n, hn⟩ : ∃ n, c.toNat = n := ⟨_, rfl⟩
              have hcn2 : s[k].toNat = n := by rw [hc, hn]
              have HCN := Aside.mk hn
              rw [hn] at hcn
              clear hdk hc hn
              by_cases hdig : 48 ≤ n ∧ n ≤ 57
              · obtain ⟨h48, h57⟩ := hdig
                obtain ⟨A, ca, rfl, _⟩ := HO.out.form
                obtain ⟨V, hV⟩ : ∃ V, dval (s.data.toList.take k) = V := ⟨_, rfl⟩
                rw [hV] at HO ⊢
                have HVV := Aside.mk hV
                have HDN : Aside ((s.data.toList.take (k + 1)).all isd = true) := ⟨by
                  rw [take_snoc HDK.out, List.all_append, HD.out]
                  simp [isd, HCN.out, h48, h57]⟩
                have HVN : Aside (dval (s.data.toList.take (k + 1)) = 10 * V + (n - 48)) := ⟨by rw [take_snoc HDK.out, dval_snoc, HVV.out, HCN.out]⟩
                have hlen : (dig V).length ≤ 4900 := by
                  have := dval_len HD.out
                  rw [HVV.out, List.length_take] at this
                  omega
                obtain ⟨m, hm⟩ : ∃ m, (dig V).length = m := ⟨_, rfl⟩
                have HM := Aside.mk hm
                rw [hm] at hlen HO ⊢
                obtain ⟨c0, hc0⟩ : ∃ c0, n = 48 + c0 := ⟨n - 48, by omega⟩
                subst hc0
                have hc9 : c0 ≤ 9 := by omega
                clear hV hm
                go_wp2
                go_loopw [7, 45] (fun cr i wr' => ∃ (t cc : Nat) (zs : List Nat), t ≤ m ∧ i = .int .i64 (t : Int) ∧ cr = .int .u64 (cc : Int) ∧ cc ≤ 9 ∧ Aside (OV w.heap.size wr' (.slice A m ca) zs) ∧ Aside (Ext w wr') ∧ Aside (zs.length = m) ∧
                  Aside (val zs + 4294967296 ^ t * cc = 10 * val ((dig V).take t) + c0 + 4294967296 ^ t * val ((dig V).drop t)) ∧ Aside (∀ j, t ≤ j → zs.getD j 0 = (dig V).getD j 0)) (fun _ i _ => m - (intOf i).toNat)
                case atStart => exact ⟨0, c0, dig V, Nat.zero_le _, rfl, by first | rfl | go_num, hc9, HO, HB, HM, ⟨by simp [val]; omega⟩, ⟨fun _ _ => rfl⟩⟩
                case round =>
                  obtain ⟨t, cc, zs, ht, rfl, rfl, hcc, HZ, HB2, HL, HS, HG⟩ := hrel
                  by_cases hlt2 : t < m
                  · obtain ⟨g, c', heq, hbg, _, _, _⟩ := HZ.out.row (by rw [HL.out]; omega)
                    injection heq with e1 e2 e3
                    subst e1
                    obtain ⟨x, hx⟩ : ∃ x, zs.getD t 0 = x := ⟨_, rfl⟩
                    have hx4 : x < 4294967296 := hx ▸ HZ.out.1.get _
                    have hzc := HZ.out.cell t (by rw [HL.out]; omega)
                    have hzf := HZ.out.free t
                    rw [hx] at hzc
                    have HX := Aside.mk hx
                    clear hx e2 e3
                    go_wp2
                    go_roundw
                    case rel =>
                      have hg := HG.out t (Nat.le_refl _)
                      rw [HX.out] at hg
                      refine ⟨t + 1, (cc + 10 * x) / 4294967296, zs.set t ((cc + 10 * x) % 4294967296), by omega, by go_num, by congr 1, by omega, ⟨?_⟩, ⟨HB2.out.set hbg _⟩, ⟨by simp [HL.out]⟩, ⟨?_⟩, ⟨?_⟩⟩
                      · rw [show ((cc : Int) + 10 * (x : Int)) % 4294967296 = (((cc + 10 * x) % 4294967296 : Nat) : Int) from by omega]
                        exact HZ.out.store t (by omega)
                      · exact parse_step (by rw [HL.out]; exact hlt2) (by rw [HM.out]; exact hlt2) HS.out hg.symm HX.out
                      · intro j hj
                        rw [getD_set_ne (by omega)]
                        exact HG.out j (by omega)
                    case measure => simp [intOf]; omega
                  · have htm : t = m := by omega
                    subst htm
                    have HX : Aside (val zs + 4294967296 ^ zs.length * cc = 10 * V + c0) := ⟨by
                      have h := HS.out
                      rw [← HM.out, List.take_length, List.drop_length, val_dig] at h
                      rw [HL.out, ← HM.out, h]; simp [val]⟩
                    have HLM : Aside ((dig V).length ≤ (dig (10 * V + c0)).length) := ⟨dig_len_mono (by omega)⟩
                    rcases Nat.eq_zero_or_pos cc with rfl | hcp
                    · have HR : Aside (zs = dig (10 * V + c0)) := ⟨dig_of_len HZ.out.1.ds (by have := HX.out; omega) (by rw [HL.out, ← HM.out]; exact HLM.out)⟩
                      go_wp2
                      go_roundw
                      case rel => exact ⟨k + 1, by omega, by go_num, ⟨by rw [HVN.out, show 48 + c0 - 48 = c0 from by omega, ← HR.out]; exact HZ.out⟩, HDN, HB2⟩
                      case measure => simp [intOf]; omega
                    · have HR : Aside (zs ++ [cc] = dig (10 * V + c0)) := ⟨by
                        rw [← HX.out, ← val_concat]
                        refine (dig_val (HZ.out.1.ds.append (Ds.cons (by omega) Ds.nil)) ?_).symm
                        intro _ h0
                        simp at h0; omega⟩
                      go_wp2_with (at_builtin; (refine append_u32 w.heap.size rfl _ _ rfl _ zs cc _ ?hz HZ.out rfl rfl (by omega) HB2.out.size ?hl ?_; (case hz => omega); (case hl => rw [HL.out]; omega); intro z1 w1 hz1 hg1; have HB1 := Aside.mk (HZ.out.ext_grown HB2.out (Nat.le_refl _) hg1); have HZ1 := Aside.mk hz1; clear hz1 hg1))
                      go_roundw
                      case rel => exact ⟨k + 1, by omega, by go_num, ⟨by rw [HVN.out, show 48 + c0 - 48 = c0 from by omega, ← HR.out]; exact HZ1.out⟩, HDN, HB1⟩
                      case measure => simp [intOf]; omega
              · have hall : s.data.toList.all isd = false := by
                  rw [List.all_eq_false]
                  refine ⟨c, List.mem_of_getElem? HDK.out, ?_⟩
                  unfold isd
                  rw [HCN.out]
                  simp; omega
                have HP : Aside (perr s.data.toList = 5) := ⟨by rw [HPE.out, hall]; rfl⟩
                clear hall
                by_cases h48 : n < 48
                · clear hdig
                  go_wp2
                  go_ret2
                  rw [HP.out, pdig_err (by rw [HP.out]; decide)]
                  exact ⟨.slice none 0 0, rfl, OV.nil _ _, HB.out⟩
                · have h57 : 57 < n := by omega
                  clear hdig
                  go_wp2
                  go_ret2
                  rw [HP.out, pdig_err (by rw [HP.out]; decide)]
                  exact ⟨.slice none 0 0, rfl, OV.nil _ _, HB.out⟩
            · have hkm : k = s.size := by omega
              subst hkm
              have HT : Aside (s.data.toList.take s.size = s.data.toList) := ⟨by rw [← HSZ.out, List.take_length]⟩
              have HP : Aside (perr s.data.toList = 0) := ⟨by rw [HPE.out, if_pos (by rw [← HT.out]; exact HD.out)]⟩
              go_wp2
              go_ret2
              rw [HP.out, pdig_ok HP.out]
              exact ⟨_, rfl, by have := HO.out; rwa [HT.out] at this, HB.out⟩
end Go.Proofs.YtcbaipnphepbeaaGreatDoor
