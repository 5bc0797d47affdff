/- Contract of nat.Parse. -/
import Derived.Test.YtgfkachfbnbikaaGreatDoorNatJ
import Derived.WalkSpells
namespace Go.Proofs.YtgfkachfbnbikaaGreatDoor
open Go.RowKit

theorem dig_of_len {zs : List Nat} {X : Nat} (hd : Ds zs) (hv : val zs = X) (hl : zs.length ≤ (dig X).length) : zs = dig X := by
  subst hv
  refine (dig_val hd ?_).symm
  intro hne h0
  have hp := List.length_pos_iff.2 hne
  have h1 := val_take_succ zs (zs.length - 1) (by omega)
  rw [show zs.length - 1 + 1 = zs.length from by omega, List.take_length, h0, Nat.mul_zero, Nat.add_zero] at h1
  have h2 := val_lt (hd.take (zs.length - 1))
  rw [← h1, List.length_take, Nat.min_eq_left (by omega)] at h2
  have := dig_length_le h2
  omega
theorem dval_lt {l : List UInt8} (h : l.all isd = true) : dval l < 10 ^ l.length := by
  obtain ⟨xs, hd, he, hn⟩ := chars_of_all h
  have := v10_lt hd
  rw [← hn, he, dval_map_chr hd]
  exact this
theorem dval_len {l : List UInt8} (h : l.all isd = true) : (dig (dval l)).length ≤ l.length :=
  dig_length_le (Nat.lt_of_lt_of_le (dval_lt h) (Nat.pow_le_pow_left (by decide) _))
theorem take_snoc {l : List UInt8} {k : Nat} {c : UInt8} (h : l[k]? = some c) : l.take (k + 1) = l.take k ++ [c] := by
  rw [List.take_add_one, h]; rfl
theorem parse_step {zs xs : List Nat} {t cr x c0 : Nat} (ht : t < zs.length) (htx : t < xs.length) (hv : val zs + 4294967296 ^ t * cr = 10 * val (xs.take t) + c0 + 4294967296 ^ t * val (xs.drop t)) (hx : xs.getD t 0 = x) (hz : zs.getD t 0 = x) :
    val (zs.set t ((cr + 10 * x) % 4294967296)) + 4294967296 ^ (t + 1) * ((cr + 10 * x) / 4294967296) = 10 * val (xs.take (t + 1)) + c0 + 4294967296 ^ (t + 1) * val (xs.drop (t + 1)) := by
  have h1 := val_set ((cr + 10 * x) % 4294967296) ht
  rw [hz] at h1
  have h2 := val_take_succ xs t htx
  have h3 := val_drop xs t htx
  rw [hx] at h2 h3
  rw [h3] at hv
  rw [h2, Nat.pow_succ]
  generalize 4294967296 ^ t = P at *
  generalize val (xs.take t) = T at *
  generalize val (xs.drop (t + 1)) = D at *
  generalize val (zs.set t ((cr + 10 * x) % 4294967296)) = Z at *
  generalize val zs = Z0 at *
  have e : P * ((cr + 10 * x) % 4294967296) + P * 4294967296 * ((cr + 10 * x) / 4294967296) = P * (cr + 10 * x) := by
    rw [Nat.mul_assoc, ← Nat.mul_add]; congr 1; omega
  have e2 : P * (cr + 10 * x) = P * cr + 10 * (P * x) := by rw [Nat.mul_add, Nat.mul_left_comm]
  rw [Nat.mul_add] at hv
  rw [Nat.mul_add, Nat.mul_assoc P 4294967296 D]
  omega

/-- The digits that Parse returns. -/
def pdig (l : List UInt8) : List Nat := if perr l = 0 then dig (dval l) else []
theorem pdig_err {l : List UInt8} (h : perr l ≠ 0) : pdig l = [] := if_neg h
theorem pdig_ok {l : List UInt8} (h : perr l = 0) : pdig l = dig (dval l) := if_pos h

set_option maxHeartbeats 2000000 in
theorem Parse_calls {w : World} {s : ByteArray} (hs : s.size ≤ 1073741824) :
    Calls Tryz.prog 82 #[.string s] w fun e w' => ∃ r, e = .returned (.tuple #[r, .int .i64 (perr s.data.toList : Nat)]) ∧ OV w.heap.size w' r (pdig s.data.toList) ∧ Ext w w' := by
  have hsz : s.data.toList.length = s.size := (Lib.size_eq s).symm
  by_cases h49 : 4900 < s.size
  · have HP : Aside (perr s.data.toList = 3) := ⟨by unfold perr; rw [if_pos (by rw [hsz]; exact h49)]⟩
    rw [HP.out, pdig_err (by rw [HP.out]; decide)]
    clear hsz
    go_enter Tryz.func82, Tryz.ntmps82
    go_wp2
    go_ret2
    exact ⟨.slice none 0 0, rfl, OV.nil _ _, Ext.refl w⟩
  · have HN49 := Aside.mk h49
    rcases Nat.eq_zero_or_pos s.size with h0 | h0
    · have HP : Aside (perr s.data.toList = 5) := ⟨by unfold perr; rw [if_neg (by omega), if_pos (.inl (List.eq_nil_of_length_eq_zero (by omega)))]⟩
      rw [HP.out, pdig_err (by rw [HP.out]; decide)]
      have hs0 : s = ⟨#[]⟩ := by
        rw [← Lib.mk_data s, List.eq_nil_of_length_eq_zero (hsz.trans h0)]
      subst hs0
      clear hsz h49 hs
      go_enter Tryz.func82, Tryz.ntmps82
      go_wp2
      go_ret2
      exact ⟨.slice none 0 0, rfl, OV.nil _ _, Ext.refl w⟩
    · have hd0 : s.data.toList[0]? = some s[0] := Lib.data_getElem? s 0 h0
      have hz1 : s.size ≠ 0 := by omega
      by_cases hz : s[0] = 48 ∧ 1 < s.size
      · have HP : Aside (perr s.data.toList = 5) := ⟨by
          unfold perr
          rw [if_neg (by omega), if_pos (.inr ⟨by rw [List.head?_eq_getElem?, hd0, hz.1], by omega⟩)]⟩
        rw [HP.out, pdig_err (by rw [HP.out]; decide)]
        have hb : (((s[0].toNat : Nat) : Int) == 48) = true := by rw [hz.1]; rfl
        have hz2 := hz.2
        have hemp : s.toList.isEmpty = false := by rw [Lib.toList_data]; cases hh : s.data.toList <;> simp_all
        clear hsz hz hd0
        go_enter Tryz.func82, Tryz.ntmps82
        go_wp2
        go_ret2
        exact ⟨.slice none 0 0, rfl, OV.nil _ _, Ext.refl w⟩
      · have hemp : s.toList.isEmpty = false := by rw [Lib.toList_data]; cases hh : s.data.toList <;> simp_all
        have HPE : Aside (perr s.data.toList = if s.data.toList.all isd then 0 else 5) := ⟨by
          unfold perr
          rw [if_neg (by omega), if_neg]
          rintro (h | ⟨h1, h2⟩)
          · rw [h] at hsz; simp at hsz; omega
          · rw [List.head?_eq_getElem?, hd0] at h1
            exact hz ⟨by simpa using h1, by omega⟩⟩
        have hcase : ((((s[0].toNat : Nat) : Int) == 48) = true ∧ s.size ≤ 1) ∨ (((s[0].toNat : Nat) : Int) == 48) = false := by
          cases hb : (((s[0].toNat : Nat) : Int) == 48)
          · exact .inr rfl
          · refine .inl ⟨rfl, ?_⟩
            rcases Nat.lt_or_ge 1 s.size with h1 | h1
            · exfalso; apply hz
              refine ⟨?_, h1⟩
              apply UInt8.toNat_inj.1
              have : (48 : UInt8).toNat = 48 := rfl
              have := eq_of_beq hb
              omega
            · exact h1
        have HSZ := Aside.mk hsz
        clear hsz hz hd0
        rcases hcase with ⟨hb, h1⟩ | hb
        all_goals
          go_enter Tryz.func82, Tryz.ntmps82
          go_wp2
          go_loopw [4, 28] (fun out i wr => ∃ (k : Nat), k ≤ s.size ∧ i = .int .i64 (k : Int) ∧ Aside (OV w.heap.size wr out (dig (dval (s.data.toList.take k)))) ∧ Aside ((s.data.toList.take k).all isd = true) ∧ Aside (Ext w wr)) (fun _ i _ => s.size - (intOf i).toNat)
          case atStart => exact ⟨0, Nat.zero_le _, rfl, ⟨by simp [dval, dig_zero]; exact OV.nil _ _⟩, ⟨by simp⟩, ⟨Ext.refl w⟩⟩
          case round =>
            obtain ⟨k, hk, rfl, HO, HD, HB⟩ := hrel
            by_cases hlt : k < s.size
            · have hdk : s.data.toList[k]? = some s[k] := Lib.data_getElem? s k hlt
              obtain ⟨c, hc⟩ : ∃ c, s[k] = c := ⟨_, rfl⟩
              rw [hc] at hdk
              have HDK := Aside.mk hdk
              have hcn : c.toNat < 256 := c.toNat_lt
              obtain ⟨n, hn⟩ : ∃ n, c.toNat = n := ⟨_, rfl⟩
              have hcn2 : s[k].toNat = n := by rw [hc, hn]
              have HCN := Aside.mk hn
              rw [hn] at hcn
              clear hdk hc hn
              by_cases hdig : 48 ≤ n ∧ n ≤ 57
              · obtain ⟨h48, h57⟩ := hdig
                obtain ⟨A, ca, rfl, _⟩ := HO.out.form
                obtain ⟨V, hV⟩ : ∃ V, dval (s.data.toList.take k) = V := ⟨_, rfl⟩
                rw [hV] at HO ⊢
                have HVV := Aside.mk hV
                have HDN : Aside ((s.data.toList.take (k + 1)).all isd = true) := ⟨by
                  rw [take_snoc HDK.out, List.all_append, HD.out]
                  simp [isd, HCN.out, h48, h57]⟩
                have HVN : Aside (dval (s.data.toList.take (k + 1)) = 10 * V + (n - 48)) := ⟨by rw [take_snoc HDK.out, dval_snoc, HVV.out, HCN.out]⟩
                have hlen : (dig V).length ≤ 4900 := by
                  have := dval_len HD.out
                  rw [HVV.out, List.length_take] at this
                  omega
                obtain ⟨m, hm⟩ : ∃ m, (dig V).length = m := ⟨_, rfl⟩
                have HM := Aside.mk hm
                rw [hm] at hlen HO ⊢
                obtain ⟨c0, hc0⟩ : ∃ c0, n = 48 + c0 := ⟨n - 48, by omega⟩
                subst hc0
                have hc9 : c0 ≤ 9 := by omega
                clear hV hm
                go_wp2
                go_loopw [7, 45] (fun cr i wr' => ∃ (t cc : Nat) (zs : List Nat), t ≤ m ∧ i = .int .i64 (t : Int) ∧ cr = .int .u64 (cc : Int) ∧ cc ≤ 9 ∧ Aside (OV w.heap.size wr' (.slice A m ca) zs) ∧ Aside (Ext w wr') ∧ Aside (zs.length = m) ∧
                  Aside (val zs + 4294967296 ^ t * cc = 10 * val ((dig V).take t) + c0 + 4294967296 ^ t * val ((dig V).drop t)) ∧ Aside (∀ j, t ≤ j → zs.getD j 0 = (dig V).getD j 0)) (fun _ i _ => m - (intOf i).toNat)
                case atStart => exact ⟨0, c0, dig V, Nat.zero_le _, rfl, by first | rfl | go_num, hc9, HO, HB, HM, ⟨by simp [val]; omega⟩, ⟨fun _ _ => rfl⟩⟩
                case round =>
                  obtain ⟨t, cc, zs, ht, rfl, rfl, hcc, HZ, HB2, HL, HS, HG⟩ := hrel
                  by_cases hlt2 : t < m
                  · obtain ⟨g, c', heq, hbg, _, _, _⟩ := HZ.out.row (by rw [HL.out]; omega)
                    injection heq with e1 e2 e3
                    subst e1
                    obtain ⟨x, hx⟩ : ∃ x, zs.getD t 0 = x := ⟨_, rfl⟩
                    have hx4 : x < 4294967296 := hx ▸ HZ.out.1.get _
                    have hzc := HZ.out.cell t (by rw [HL.out]; omega)
                    have hzf := HZ.out.free t
                    rw [hx] at hzc
                    have HX := Aside.mk hx
                    clear hx e2 e3
                    go_wp2
                    go_roundw
                    case rel =>
                      have hg := HG.out t (Nat.le_refl _)
                      rw [HX.out] at hg
                      refine ⟨t + 1, (cc + 10 * x) / 4294967296, zs.set t ((cc + 10 * x) % 4294967296), by omega, by go_num, by congr 1, by omega, ⟨?_⟩, ⟨HB2.out.set hbg _⟩, ⟨by simp [HL.out]⟩, ⟨?_⟩, ⟨?_⟩⟩
                      · rw [show ((cc : Int) + 10 * (x : Int)) % 4294967296 = (((cc + 10 * x) % 4294967296 : Nat) : Int) from by omega]
                        exact HZ.out.store t (by omega)
                      · exact parse_step (by rw [HL.out]; exact hlt2) (by rw [HM.out]; exact hlt2) HS.out hg.symm HX.out
                      · intro j hj
                        rw [getD_set_ne (by omega)]
                        exact HG.out j (by omega)
                    case measure => simp [intOf]; omega
                  · have htm : t = m := by omega
                    subst htm
                    have HX : Aside (val zs + 4294967296 ^ zs.length * cc = 10 * V + c0) := ⟨by
                      have h := HS.out
                      rw [← HM.out, List.take_length, List.drop_length, val_dig] at h
                      rw [HL.out, ← HM.out, h]; simp [val]⟩
                    have HLM : Aside ((dig V).length ≤ (dig (10 * V + c0)).length) := ⟨dig_len_mono (by omega)⟩
                    rcases Nat.eq_zero_or_pos cc with rfl | hcp
                    · have HR : Aside (zs = dig (10 * V + c0)) := ⟨dig_of_len HZ.out.1.ds (by have := HX.out; omega) (by rw [HL.out, ← HM.out]; exact HLM.out)⟩
                      go_wp2
                      go_roundw
                      case rel => exact ⟨k + 1, by omega, by go_num, ⟨by rw [HVN.out, show 48 + c0 - 48 = c0 from by omega, ← HR.out]; exact HZ.out⟩, HDN, HB2⟩
                      case measure => simp [intOf]; omega
                    · have HR : Aside (zs ++ [cc] = dig (10 * V + c0)) := ⟨by
                        rw [← HX.out, ← val_concat]
                        refine (dig_val (HZ.out.1.ds.append (Ds.cons (by omega) Ds.nil)) ?_).symm
                        intro _ h0
                        simp at h0; omega⟩
                      go_wp2_with (at_builtin; (refine append_u32 w.heap.size rfl _ _ rfl _ zs cc _ ?hz HZ.out rfl rfl (by omega) HB2.out.size ?hl ?_; (case hz => omega); (case hl => rw [HL.out]; omega); intro z1 w1 hz1 hg1; have HB1 := Aside.mk (HZ.out.ext_grown HB2.out (Nat.le_refl _) hg1); have HZ1 := Aside.mk hz1; clear hz1 hg1))
                      go_roundw
                      case rel => exact ⟨k + 1, by omega, by go_num, ⟨by rw [HVN.out, show 48 + c0 - 48 = c0 from by omega, ← HR.out]; exact HZ1.out⟩, HDN, HB1⟩
                      case measure => simp [intOf]; omega
              · have hall : s.data.toList.all isd = false := by
                  rw [List.all_eq_false]
                  refine ⟨c, List.mem_of_getElem? HDK.out, ?_⟩
                  unfold isd
                  rw [HCN.out]
                  simp; omega
                have HP : Aside (perr s.data.toList = 5) := ⟨by rw [HPE.out, hall]; rfl⟩
                clear hall
                by_cases h48 : n < 48
                · clear hdig
                  go_wp2
                  go_ret2
                  rw [HP.out, pdig_err (by rw [HP.out]; decide)]
                  exact ⟨.slice none 0 0, rfl, OV.nil _ _, HB.out⟩
                · have h57 : 57 < n := by omega
                  clear hdig
                  go_wp2
                  go_ret2
                  rw [HP.out, pdig_err (by rw [HP.out]; decide)]
                  exact ⟨.slice none 0 0, rfl, OV.nil _ _, HB.out⟩
            · have hkm : k = s.size := by omega
              subst hkm
              have HT : Aside (s.data.toList.take s.size = s.data.toList) := ⟨by rw [← HSZ.out, List.take_length]⟩
              have HP : Aside (perr s.data.toList = 0) := ⟨by rw [HPE.out, if_pos (by rw [← HT.out]; exact HD.out)]⟩
              go_wp2
              go_ret2
              rw [HP.out, pdig_ok HP.out]
              exact ⟨_, rfl, by have := HO.out; rwa [HT.out] at this, HB.out⟩
end Go.Proofs.YtgfkachfbnbikaaGreatDoor
