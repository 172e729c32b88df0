/-
  NetAl: the walk of liaisonlaw12.alive.
-/
import Derived.Test.YtbbhecadpbnobaaDoorNetMove
import Derived.Test.YtbbhecadpbnobaaDoorConvB
namespace Go.Proofs.YtbbhecadpbnobaaDoor
open Go.RowKit

def abc : List (List UInt8) := [[97], [98], [99]]
def alS (k : Nat) : NSt := ⟨2, (abc.take k).map fun l => (0, 1, l), fun _ _ => false, 0⟩
theorem alS_put (k : Nat) (hk : k < 3) : (alS k).put (0, 1, abc.getD k []) = alS (k + 1) ∧ (alS k).putE (0, 1, abc.getD k []) = 0 ∧ (alS k).putB (0, 1, abc.getD k []) = true := by
  have : k = 0 ∨ k = 1 ∨ k = 2 := by omega
  rcases this with rfl | rfl | rfl <;> exact ⟨rfl, rfl, rfl⟩
theorem byt_but {S : List Nat} {w w' : World} {u : Value} {l : List UInt8} (h : Byt w u l) (k : But S w w') (hn : ∀ b, u.ownBlock = some b → S.contains b = false) : Byt w' u l := by
  obtain ⟨p, c, rfl, h1, h2, h3⟩ := h
  refine ⟨p, c, rfl, h1, h2, ?_⟩
  rcases h3 with h3 | ⟨b, off, rfl, h3⟩
  · exact .inl h3
  · exact .inr ⟨b, off, rfl, fun i x hx => k.cell (hn b rfl) (h3 i x hx)⟩
theorem Nn.nolt {w : World} {n b : Nat} {p : Option Nat} {c : Nat} {st : NSt} (h : Nn w n b p c st) {g : Nat} (hg : w.heap.size ≤ g) : (nS n b p).contains g = false := by
  rw [Bool.eq_false_iff]
  intro hc
  have := h.lt g (List.contains_iff_mem.1 hc)
  omega
theorem Nn.nostr {w : World} {n b : Nat} {p : Option Nat} {c : Nat} {st : NSt} (h : Nn w n b p c st) {g : Nat} {cs : Array Value} (hg : Blk w g 9 cs) : (nS n b p).contains g = false := by
  obtain ⟨⟨cn, tn⟩, tp, _, _, hne⟩ := h.types
  rw [Bool.eq_false_iff]
  intro hc
  rcases mem_nS.1 (List.contains_iff_mem.1 hc) with e | e | e
  · exact Blk.ne_ hg tn (by decide) e
  · exact hne _ _ _ hg e.symm
  · obtain ⟨cs', hcs⟩ := tp g e
    exact Blk.ne_ hg hcs (by decide) rfl
set_option maxRecDepth 20000 in
set_option maxHeartbeats 2000000 in
theorem nalive_any (w : World) (E : Nat → Addr) (he : ErrsOn [0, 2, 5] w E) :
    Calls Tryd.prog 7 #[] w (fun e w' => e = .returned (.bool true) ∧ Below w.heap.size w w') := by
  have HE := Lib.hid he
  clear he
  go_enter Tryd.func7, Tryd.ntmps7
  go_wp2_with fail
  refine (nnew_any w 2 (by decide)).mono ?_
  rintro e w1 ⟨rfl, hn1, hb1⟩
  have HN1 := Lib.hid hn1
  have HB1 := Lib.hid hb1
  clear hn1 hb1
  go_wp2_with fail
  have hG := Blk.new w1 9 #[.string ⟨#[97]⟩, .string ⟨#[98]⟩, .string ⟨#[99]⟩]
  have hk := below_alloc1 w1 (.cells #[.string ⟨#[97]⟩, .string ⟨#[98]⟩, .string ⟨#[99]⟩] 9)
  have HN2 := Lib.hid (HN1.out.below hk)
  have HB2 := Lib.hid (HB1.out.trans (hk.mono HB1.out.size))
  have HG2 := Lib.hid hG
  clear hG hk HN1 HB1
  generalize w1.alloc (.cells #[.string ⟨#[97]⟩, .string ⟨#[98]⟩, .string ⟨#[99]⟩] 9) = w2 at *
  generalize w1.heap.size = G at *
  go_loopw [20] (fun i wr => ∃ (k : Nat) (p : Option Nat), k ≤ 3 ∧ i = .int .i64 k ∧ Nn wr (w.heap.size + 1) w.heap.size p 0 (alS k) ∧ Blk wr G 9 #[.string ⟨#[97]⟩, .string ⟨#[98]⟩, .string ⟨#[99]⟩] ∧ (∀ q, p = some q → w.heap.size ≤ q) ∧ Below w.heap.size w wr) (fun i _ => 3 - (intOf i).toNat)
  case atStart => exact ⟨0, none, by omega, rfl, HN2.out, HG2.out, nofun, HB2.out⟩
  case round =>
    clear HN2 HG2 HB2
    obtain ⟨k, p, hk, rfl, hnr, hG, hpb, hbr⟩ := hrel
    have HPB := Lib.hid hpb
    clear hpb
    have hk4 : k = 0 ∨ k = 1 ∨ k = 2 ∨ k = 3 := by omega
    rcases hk4 with rfl | rfl | rfl | rfl
    ·
      have hcell := (hG.cell 0).trans rfl
      obtain ⟨wc, kc, hcv0, hyc, hbc⟩ := conv_bs [97] (by decide) wr
      have hcv : (convert 9 32 (.string ⟨#[97]⟩)).run Tryd.prog wr = .ok (.slice (some ⟨wr.heap.size, 0, none⟩) 1 kc) wc := hcv0
      have hnc := hnr.below hbc
      have HPU := Lib.hid (nput_any wc E (HE.out.below (hbr.trans (hbc.mono hbr.size))) (w.heap.size + 1) w.heap.size p 0 (alS 0) hnc 0 1 (by unfold In64; omega) (by unfold In64; omega) (.slice (some ⟨wr.heap.size, 0, none⟩) 1 kc) [97] (fun w' k => byt_but hyc k fun q hq => by
        cases hq
        exact (hnr.nolt (Nat.le_refl _) : (nS (w.heap.size + 1) w.heap.size p).contains wr.heap.size = false)) (by decide))
      rw [show (alS 0).put (0, 1, [97]) = alS (0 + 1) from (alS_put 0 (by decide)).1, show (alS 0).putE (0, 1, [97]) = 0 from (alS_put 0 (by decide)).2.1, show (alS 0).putB (0, 1, [97]) = true from (alS_put 0 (by decide)).2.2, errV_zero] at HPU
      have HNC := Lib.hid hnc
      have HBC := Lib.hid (hbr.trans (hbc.mono hbr.size))
      have HGC := Lib.hid (hG.below hbc hG.lt)
      clear hcv0 hyc hbc hnc hnr hbr hG
      go_wp2_with fail
      refine HPU.out.mono ?_
      rintro e w3 ⟨rfl, ⟨p3, hp3, hn3⟩, k3⟩
      have HN3 := Lib.hid hn3
      have HB3 := Lib.hid (HBC.out.trans (k3.below (fun x hx => by
        rcases mem_nS.1 hx with h | h | h
        · omega
        · omega
        · exact HPB.out x h) HBC.out.size))
      have HG3 := Lib.hid (k3.blk HGC.out (HNC.out.nostr HGC.out))
      have HP3 := Lib.hid (show ∀ q, p3 = some q → w.heap.size ≤ q from fun q hq => by
        rcases hp3 with h | h
        · exact HPB.out q (h ▸ hq)
        · exact Nat.le_trans HBC.out.size (h q hq))
      clear hn3 k3 HPU hp3
      go_wp2_with fail
      go_roundw
      case rel => exact ⟨0 + 1, p3, by omega, by go_num, HN3.out, HG3.out, HP3.out, HB3.out⟩
      case measure => simp [intOf]
    ·
      have hcell := (hG.cell 1).trans rfl
      obtain ⟨wc, kc, hcv0, hyc, hbc⟩ := conv_bs [98] (by decide) wr
      have hcv : (convert 9 32 (.string ⟨#[98]⟩)).run Tryd.prog wr = .ok (.slice (some ⟨wr.heap.size, 0, none⟩) 1 kc) wc := hcv0
      have hnc := hnr.below hbc
      have HPU := Lib.hid (nput_any wc E (HE.out.below (hbr.trans (hbc.mono hbr.size))) (w.heap.size + 1) w.heap.size p 0 (alS 1) hnc 0 1 (by unfold In64; omega) (by unfold In64; omega) (.slice (some ⟨wr.heap.size, 0, none⟩) 1 kc) [98] (fun w' k => byt_but hyc k fun q hq => by
        cases hq
        exact (hnr.nolt (Nat.le_refl _) : (nS (w.heap.size + 1) w.heap.size p).contains wr.heap.size = false)) (by decide))
      rw [show (alS 1).put (0, 1, [98]) = alS (1 + 1) from (alS_put 1 (by decide)).1, show (alS 1).putE (0, 1, [98]) = 0 from (alS_put 1 (by decide)).2.1, show (alS 1).putB (0, 1, [98]) = true from (alS_put 1 (by decide)).2.2, errV_zero] at HPU
      have HNC := Lib.hid hnc
      have HBC := Lib.hid (hbr.trans (hbc.mono hbr.size))
      have HGC := Lib.hid (hG.below hbc hG.lt)
      clear hcv0 hyc hbc hnc hnr hbr hG
      go_wp2_with fail
      refine HPU.out.mono ?_
      rintro e w3 ⟨rfl, ⟨p3, hp3, hn3⟩, k3⟩
      have HN3 := Lib.hid hn3
      have HB3 := Lib.hid (HBC.out.trans (k3.below (fun x hx => by
        rcases mem_nS.1 hx with h | h | h
        · omega
        · omega
        · exact HPB.out x h) HBC.out.size))
      have HG3 := Lib.hid (k3.blk HGC.out (HNC.out.nostr HGC.out))
      have HP3 := Lib.hid (show ∀ q, p3 = some q → w.heap.size ≤ q from fun q hq => by
        rcases hp3 with h | h
        · exact HPB.out q (h ▸ hq)
        · exact Nat.le_trans HBC.out.size (h q hq))
      clear hn3 k3 HPU hp3
      go_wp2_with fail
      go_roundw
      case rel => exact ⟨1 + 1, p3, by omega, by go_num, HN3.out, HG3.out, HP3.out, HB3.out⟩
      case measure => simp [intOf]
    ·
      have hcell := (hG.cell 2).trans rfl
      obtain ⟨wc, kc, hcv0, hyc, hbc⟩ := conv_bs [99] (by decide) wr
      have hcv : (convert 9 32 (.string ⟨#[99]⟩)).run Tryd.prog wr = .ok (.slice (some ⟨wr.heap.size, 0, none⟩) 1 kc) wc := hcv0
      have hnc := hnr.below hbc
      have HPU := Lib.hid (nput_any wc E (HE.out.below (hbr.trans (hbc.mono hbr.size))) (w.heap.size + 1) w.heap.size p 0 (alS 2) hnc 0 1 (by unfold In64; omega) (by unfold In64; omega) (.slice (some ⟨wr.heap.size, 0, none⟩) 1 kc) [99] (fun w' k => byt_but hyc k fun q hq => by
        cases hq
        exact (hnr.nolt (Nat.le_refl _) : (nS (w.heap.size + 1) w.heap.size p).contains wr.heap.size = false)) (by decide))
      rw [show (alS 2).put (0, 1, [99]) = alS (2 + 1) from (alS_put 2 (by decide)).1, show (alS 2).putE (0, 1, [99]) = 0 from (alS_put 2 (by decide)).2.1, show (alS 2).putB (0, 1, [99]) = true from (alS_put 2 (by decide)).2.2, errV_zero] at HPU
      have HNC := Lib.hid hnc
      have HBC := Lib.hid (hbr.trans (hbc.mono hbr.size))
      have HGC := Lib.hid (hG.below hbc hG.lt)
      clear hcv0 hyc hbc hnc hnr hbr hG
      go_wp2_with fail
      refine HPU.out.mono ?_
      rintro e w3 ⟨rfl, ⟨p3, hp3, hn3⟩, k3⟩
      have HN3 := Lib.hid hn3
      have HB3 := Lib.hid (HBC.out.trans (k3.below (fun x hx => by
        rcases mem_nS.1 hx with h | h | h
        · omega
        · omega
        · exact HPB.out x h) HBC.out.size))
      have HG3 := Lib.hid (k3.blk HGC.out (HNC.out.nostr HGC.out))
      have HP3 := Lib.hid (show ∀ q, p3 = some q → w.heap.size ≤ q from fun q hq => by
        rcases hp3 with h | h
        · exact HPB.out q (h ▸ hq)
        · exact Nat.le_trans HBC.out.size (h q hq))
      clear hn3 k3 HPU hp3
      go_wp2_with fail
      go_roundw
      case rel => exact ⟨2 + 1, p3, by omega, by go_num, HN3.out, HG3.out, HP3.out, HB3.out⟩
      case measure => simp [intOf]
    · have HMV := Lib.hid (nmove_any wr _ _ p 0 (alS 3) hnr 2 0 (0, 1, [99]) rfl (by decide) (by decide))
      have HBR := Lib.hid hbr
      have HBP := Lib.hid (fun x (hx : x ∈ nS (w.heap.size + 1) w.heap.size p) => show w.heap.size ≤ x from by
        rcases mem_nS.1 hx with h | h | h
        · omega
        · omega
        · exact HPB.out x h)
      clear hnr hG hbr hk
      go_wp2_with fail
      refine HMV.out.mono ?_
      rintro e w3 ⟨rfl, ⟨p3, hp3, hn3⟩, k3⟩
      have HB3 := Lib.hid (HBR.out.trans (k3.below HBP.out HBR.out.size))
      have HTK := Lib.hid (ntake_any w3 _ _ p3 0 ((alS 3).moved 2 0 (0, 1, [99])) hn3 1 (0, 1, [97]) rfl (by decide))
      have HP3 := Lib.hid (fun x (hx : x ∈ nS (w.heap.size + 1) w.heap.size p3) => show w.heap.size ≤ x from by
        rcases mem_nS.1 hx with h | h | h
        · omega
        · omega
        · rcases hp3 with e | e
          · exact HPB.out x (e ▸ h)
          · exact Nat.le_trans HBR.out.size (e x h))
      clear hp3 hn3 k3 HMV
      go_wp2_with fail
      refine HTK.out.mono ?_
      rintro e w4 ⟨⟨u, rfl, ho4⟩, ⟨p4, hp4, hn4⟩, k4⟩
      have HB4 := Lib.hid (HB3.out.trans (k4.below HP3.out HB3.out.size))
      have hby := owns_byt ho4
      obtain ⟨q4, c4, rfl, _⟩ := id hby
      have hbx := below_alloc1 w4 (.cells #[.int .i64 0, .int .i64 1, .slice q4 1 c4] 37)
      have s1 : (convert 32 9 (.slice q4 1 c4)).run Tryd.prog (w4.alloc (.cells #[.int .i64 0, .int .i64 1, .slice q4 1 c4] 37)) = .ok (.string ⟨#[97]⟩) (w4.alloc (.cells #[.int .i64 0, .int .i64 1, .slice q4 1 c4] 37)) := str_of (hby.below hbx)
      have HLN := Lib.hid (len_any _ _ _ p4 0 _ (hn4.below hbx))
      have y2 := ((Blk.new w4 37 #[.int .i64 0, .int .i64 1, .slice q4 1 c4]).cell 2).trans rfl
      have HB5 := Lib.hid (HB4.out.trans (hbx.mono HB4.out.size))
      clear ho4 hp4 hn4 k4 hby hbx HTK
      go_wp2_with fail
      refine HLN.out.mono ?_
      rintro e w5 ⟨rfl, hw5⟩
      rw [hw5]
      clear hw5 w5
      go_wp2_with fail
      go_ret
      exact ⟨rfl, HB5.out⟩
end Go.Proofs.YtbbhecadpbnobaaDoor
