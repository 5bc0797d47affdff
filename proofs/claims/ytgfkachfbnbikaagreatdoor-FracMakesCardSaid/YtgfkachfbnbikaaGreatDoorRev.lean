/- Contract of slices.Reverse of bytes. -/
import Derived.Test.YtgfkachfbnbikaaGreatDoorByte
import Derived.Shelf.RegionOpenPlain
namespace Go.Proofs.YtgfkachfbnbikaaGreatDoor
open Go.RowKit

set_option maxHeartbeats 1000000 in
theorem reverse_calls {w0 w : World} {b g c : Nat} {xs : List Nat} (h : OB b w (.slice (some ⟨g, 0, none⟩) xs.length c) xs) (he : Ext w0 w) (hg : w0.heap.size ≤ g) :
    Calls Tryz.prog 126 #[.slice (some ⟨g, 0, none⟩) xs.length c] w fun e w' => e = .returned (.tuple #[]) ∧ OB b w' (.slice (some ⟨g, 0, none⟩) xs.length c) xs.reverse ∧ Ext w0 w' := by
  have mixed : Tryz.prog.follows Departure.mixedOrders = true := by kernel_rfl
  have H := Aside.mk h
  have HE := Aside.mk he
  have hl : xs.length ≤ 1073741824 := h.1.1
  clear h he
  go_enter Tryz.func126, Tryz.ntmps126
  go_wp2
  go_loopw [2, 3] (fun i j wr => ∃ (k : Nat) (m : Int) (zs : List Nat), 2 * k ≤ xs.length + 1 ∧ i = .int .i64 (k : Int) ∧ j = .int .i64 m ∧ m = (xs.length : Int) - 1 - (k : Int) ∧ Aside (OB b wr (.slice (some ⟨g, 0, none⟩) xs.length c) zs) ∧ Aside (Ext w0 wr) ∧ Aside (RevAt xs zs k)) (fun i j _ => (intOf j - intOf i + 1).toNat)
  case atStart => exact ⟨0, _, xs, by omega, rfl, rfl, by simp, H, HE, ⟨RevAt.init xs⟩⟩
  case round =>
    obtain ⟨k, m, zs, hk, rfl, rfl, hm, HZ, HB, HR⟩ := hrel
    by_cases hlt : (k : Int) < m
    · obtain ⟨n, rfl⟩ : ∃ n : Nat, m = (n : Int) := ⟨m.toNat, by omega⟩
      have hkn : k < n := by omega
      have hnl : n < xs.length := by omega
      have hkl : k < xs.length := by omega
      have hnk : n + k + 1 = xs.length := by omega
      have hzc := HZ.out.cell k (by rw [HR.out.len]; omega)
      have hzf := HZ.out.free k
      have hzc' := HZ.out.cell n (by rw [HR.out.len]; omega)
      have hzf' := HZ.out.free n
      obtain ⟨x, hx⟩ : ∃ x, zs.getD k 0 = x := ⟨_, rfl⟩
      obtain ⟨y, hy⟩ : ∃ y, zs.getD n 0 = y := ⟨_, rfl⟩
      rw [hx] at hzc
      rw [hy] at hzc'
      have HX := Aside.mk hx
      have HY := Aside.mk hy
      clear hx hy hm
      go_wp2_with fail
      go_region_o
      go_wp2
      go_roundw
      case rel =>
        have hx8 : x < 256 := by rw [← HX.out]; exact HZ.out.1.2 _ (by rw [List.getD_eq_getElem?_getD, List.getElem?_eq_getElem (by rw [HR.out.len]; omega)]; exact List.getElem_mem _)
        have hy8 : y < 256 := by rw [← HY.out]; exact HZ.out.1.2 _ (by rw [List.getD_eq_getElem?_getD, List.getElem?_eq_getElem (by rw [HR.out.len]; omega)]; exact List.getElem_mem _)
        have hst := HR.out.step hkn hnk
        rw [HX.out, HY.out] at hst
        exact ⟨k + 1, (n : Int) - 1, (zs.set k y).set n x, by omega, by go_num, rfl, by omega, ⟨((HZ.out.ext (Ext.refl _).drew).store k hy8).store n hx8⟩, ⟨(HB.out.drew.set hg _).set hg _⟩, ⟨hst⟩⟩
      case measure => simp [intOf]; omega
    · go_wp2
      go_end0
      exact ⟨rfl, by rw [← HR.out.done (by omega)]; exact HZ.out, HB.out⟩

theorem OB.len {b : Nat} {w : World} {A : Option Addr} {n c : Nat} {xs : List Nat} (h : OB b w (.slice A n c) xs) : n = xs.length := by
  obtain ⟨A', c', e, _⟩ := h.form
  injection e
theorem reverse_n {w0 w : World} {b g n c : Nat} {xs : List Nat} (h : OB b w (.slice (some ⟨g, 0, none⟩) n c) xs) (he : Ext w0 w) (hg : w0.heap.size ≤ g) :
    Calls Tryz.prog 126 #[.slice (some ⟨g, 0, none⟩) n c] w fun e w' => e = .returned (.tuple #[]) ∧ OB b w' (.slice (some ⟨g, 0, none⟩) n c) xs.reverse ∧ Ext w0 w' := by
  obtain rfl := h.len
  exact reverse_calls h he hg
end Go.Proofs.YtgfkachfbnbikaaGreatDoor
