/-
  LawNF: NetFull answers true.
-/
import Derived.Test.YtbbhecadpbnobaaDoorNetAl
namespace Go.Proofs.YtbbhecadpbnobaaDoor
open Go.RowKit
attribute [local irreducible] wpPhi

def fullS (k : Nat) : NSt := ⟨1, List.replicate k (0, 0, []), fun _ _ => false, 0⟩
theorem fullS_add (k : Nat) (hk : k < 64) : (fullS k).put (0, 0, []) = fullS (k + 1) ∧ (fullS k).putE (0, 0, []) = 0 ∧ (fullS k).putB (0, 0, []) = true := by
  have h0 : (fullS k).has 0 = true := by simp [NSt.has, fullS]
  have hl : (fullS k).ls.length = k := by simp [fullS]
  have ha : (fullS k).add (0, 0, []) = fullS (k + 1) := by
    unfold NSt.add
    rw [hl, if_pos hk]
    simp [fullS, List.replicate_succ']
  unfold NSt.put NSt.putE NSt.putB NSt.addE
  simp only [h0, hl, ha]
  refine ⟨by simp [fullS], by simp [fullS]; omega, by simp [fullS]; omega⟩
theorem fullS_no : (fullS 64).put (0, 0, []) = fullS 64 ∧ (fullS 64).putE (0, 0, []) = 6 ∧ (fullS 64).putB (0, 0, []) = false ∧ (fullS 64).add (0, 0, []) = fullS 64 ∧ (fullS 64).addE = 6 := by
  have h0 : (fullS 64).has 0 = true := by simp [NSt.has, fullS]
  have hl : (fullS 64).ls.length = 64 := by simp [fullS]
  have ha : (fullS 64).add (0, 0, []) = fullS 64 := by
    unfold NSt.add
    rw [hl, if_neg (by omega)]
  unfold NSt.put NSt.putE NSt.putB NSt.addE
  simp only [h0, hl, ha]
  refine ⟨by simp [fullS], by simp [fullS], by simp [fullS], trivial, by simp⟩
theorem byt_nil (w : World) : Byt w (.slice none 0 0) [] := ⟨none, 0, rfl, by simp, by unfold maxLen; omega, .inl rfl⟩
set_option maxRecDepth 20000 in
set_option maxHeartbeats 2000000 in
theorem nfull_any (w : World) (E : Nat → Addr) (he : Errs w E) (n : Int) :
    Calls Tryd.prog 5 #[.int .i64 n] w (fun e w' => e = .returned (.bool true) ∧ Below w.heap.size w w') := by
  have HE := Lib.hid he
  have HAL := Lib.hid (nalive_any w E he)
  clear he
  have hu := u64_conv n
  go_enter Tryd.func5, Tryd.ntmps5
  go_wp2_with fail
  refine HAL.out.mono ?_
  rintro e w0 ⟨rfl, hb0⟩
  have HB0 := Lib.hid hb0
  clear hb0 HAL
  go_wp2_with fail
  refine (nnew_any w0 1 (by decide)).mono ?_
  rintro e w1 ⟨rfl, hn1, hb1⟩
  have HN1 := Lib.hid hn1
  have HB1 := Lib.hid (HB0.out.trans (hb1.mono HB0.out.size))
  have hsz : w.heap.size ≤ w0.heap.size := HB0.out.size
  have HSZ := Lib.hid hsz
  clear hn1 hb1 hsz HB0
  generalize w0.heap.size = N at *
  go_wp2_with fail
  go_loopw [18] (fun i wr => ∃ (k : Nat) (p : Option Nat), k ≤ 64 ∧ i = .int .i64 k ∧ Nn wr (N + 1) N p 0 (fullS k) ∧ (∀ q, p = some q → w.heap.size ≤ q) ∧ Below w.heap.size w wr) (fun i _ => 64 - (intOf i).toNat)
  case atStart => exact ⟨0, none, by omega, rfl, HN1.out, nofun, HB1.out⟩
  case round =>
    clear HN1 HB1
    obtain ⟨k, p, hk, rfl, hnr, hpb, hbr⟩ := hrel
    have HPB := Lib.hid hpb
    have HNR := Lib.hid hnr
    have HBR := Lib.hid hbr
    have HBP := Lib.hid (fun x (hx : x ∈ nS (N + 1) N p) => show w.heap.size ≤ x from by
      have := HSZ.out
      rcases mem_nS.1 hx with h | h | h
      · omega
      · omega
      · exact hpb x h)
    have HPU := Lib.hid (nput_any wr E (HE.out.below hbr) (N + 1) N p 0 (fullS k) hnr 0 0 (by unfold In64; omega) (by unfold In64; omega) (.slice none 0 0) [] (fun w' _ => byt_nil w') (by simp [fullS]))
    clear hpb hnr hbr
    by_cases hlt : k < 64
    · have hq := fullS_add k hlt
      rw [hq.1, hq.2.1, hq.2.2, errV_zero] at HPU
      clear hq
      go_wp2_with fail
      refine HPU.out.mono ?_
      rintro e w3 ⟨rfl, ⟨p3, hp3, hn3⟩, k3⟩
      have HN3 := Lib.hid hn3
      have HB3 := Lib.hid (HBR.out.trans (k3.below HBP.out HBR.out.size))
      have HP3 := Lib.hid (show ∀ q, p3 = some q → w.heap.size ≤ q from fun q hq => by
        rcases hp3 with h | h
        · exact HPB.out q (h ▸ hq)
        · exact Nat.le_trans HBR.out.size (h q hq))
      clear hn3 k3 HPU hp3
      go_wp2_with fail
      go_roundw
      case rel => exact ⟨k + 1, p3, by omega, by go_num, HN3.out, HP3.out, HB3.out⟩
      case measure => simp [intOf]; omega
    · obtain rfl : k = 64 := by omega
      rw [fullS_no.1, fullS_no.2.1, fullS_no.2.2.1] at HPU
      go_wp2_with fail
      refine HPU.out.mono ?_
      rintro e w3 ⟨rfl, ⟨p3, hp3, hn3⟩, k3⟩
      have HN3 := Lib.hid hn3
      have HB3 := Lib.hid (HBR.out.trans (k3.below HBP.out HBR.out.size))
      have HP3 := Lib.hid (show ∀ q, p3 = some q → w.heap.size ≤ q from fun q hq => by
        rcases hp3 with h | h
        · exact HPB.out q (h ▸ hq)
        · exact Nat.le_trans HBR.out.size (h q hq))
      clear hn3 k3 HPU hp3
      go_wp2_with fail
      obtain ⟨r, hr, hrm⟩ : ∃ r : Nat, r < 64 ∧ (u64n n : Int) % 64 = (r : Int) := ⟨u64n n % 64, Nat.mod_lt _ (by decide), by omega⟩
      rw [hrm]
      clear hu hrm
      have hx : (fullS 64).ls[r]? = some (0, 0, []) := by
        show (List.replicate 64 ((0, 0, []) : Lt))[r]? = some (0, 0, [])
        rw [List.getElem?_replicate, if_pos hr]
      refine (ncopy_any w3 E (HE.out.below HB3.out) (N + 1) N p3 0 (fullS 64) HN3.out r (0, 0, []) hx (by simp)).mono ?_
      rintro e w4 ⟨rfl, ⟨p4, hp4, hn4⟩, k4⟩
      rw [fullS_no.2.2.2.1] at hn4
      rw [fullS_no.2.2.2.2]
      have HN4 := Lib.hid hn4
      have HBP3 := Lib.hid (fun x (hx : x ∈ nS (N + 1) N p3) => show w.heap.size ≤ x from by
        have := HSZ.out
        rcases mem_nS.1 hx with h | h | h
        · omega
        · omega
        · exact HP3.out x h)
      have HB4 := Lib.hid (HB3.out.trans (k4.below HBP3.out HB3.out.size))
      have HP4 := Lib.hid (show ∀ q, p4 = some q → w.heap.size ≤ q from fun q hq => by
        rcases hp4 with h | h
        · exact HP3.out q (h ▸ hq)
        · exact Nat.le_trans HB3.out.size (h q hq))
      clear hn4 k4 hp4 hx hr
      go_wp2_with fail
      refine (num_any w4 E 6 (by omega) (HE.out.below HB4.out)).mono ?_
      rintro e w5 ⟨rfl, hb5⟩
      have HN5 := Lib.hid (HN4.out.below hb5)
      have HB5 := Lib.hid (HB4.out.trans (hb5.mono HB4.out.size))
      clear hb5
      go_wp2_with fail
      refine (num_any w5 E 6 (by omega) (HE.out.below HB5.out)).mono ?_
      rintro e w6 ⟨rfl, hb6⟩
      have HN6 := Lib.hid (HN5.out.below hb6)
      have HB6 := Lib.hid (HB5.out.trans (hb6.mono HB5.out.size))
      clear hb6
      go_wp2_with fail
      have HLN := Lib.hid (len_any w6 _ _ p4 0 _ HN6.out)
      rw [show (fullS 64).ls.length = 64 from by show (List.replicate 64 ((0, 0, []) : Lt)).length = 64; rw [List.length_replicate]] at HLN
      refine HLN.out.mono ?_
      rintro e w7 ⟨rfl, hw7⟩
      rw [hw7]
      clear hw7 w7
      go_wp2_with fail
      refine (nmove_any w6 (N + 1) N p4 0 (fullS 64) HN6.out 0 63 (0, 0, []) rfl (by decide) (by decide)).mono ?_
      rintro e w7 ⟨rfl, _, k7⟩
      have HB7 := Lib.hid (HB6.out.trans (k7.below (fun x (hx : x ∈ nS (N + 1) N p4) => show w.heap.size ≤ x from by
        have := HSZ.out
        rcases mem_nS.1 hx with h | h | h
        · omega
        · omega
        · exact HP4.out x h) HB6.out.size))
      clear k7
      go_wp2_with fail
      go_ret
      exact ⟨rfl, HB7.out⟩
end Go.Proofs.YtbbhecadpbnobaaDoor
