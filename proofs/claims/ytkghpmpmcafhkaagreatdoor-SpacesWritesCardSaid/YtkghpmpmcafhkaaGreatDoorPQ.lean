/- SpL -/
import Derived.Test.YtkghpmpmcafhkaaGreatDoorPO
namespace Go.Proofs.YtkghpmpmcafhkaaGreatDoor
set_option maxHeartbeats 4000000
set_option maxRecDepth 20000
open Go.RowKit
attribute [local go_sem] bs_toList
def liveX : Tr := .node [[112, 58, 97]] [[xmlnsL ++ [58, 112], [117]]] [] []
def liveE : Tr := .node [[117], [97]] [] [] []
theorem live_res : resolveF liveX = some liveE := by rfl
def liveW : Tr := .node [[110, 49, 58, 97]] [[xmlnsL ++ [58, 110, 49], [117]]] [] []
theorem live_write : writeF liveE = some liveW := by kernel_rfl
theorem liveE_cells {w : World} {P : Nat → Prop} {cs : List Value} (h : TrC w P liveE cs) : ∃ pa ca pk ck, cs = [.string ⟨#[117]⟩, .string ⟨#[97]⟩, .slice pa 0 ca, .slice pk 0 ck, .string ⟨#[]⟩] := by
  unfold liveE TrC at h
  obtain ⟨pa, ca, pk, ck, css, rfl, _⟩ := h
  exact ⟨pa, ca, pk, ck, rfl⟩
theorem liveW_cells {w : World} {P : Nat → Prop} {cs : List Value} (h : TrC w P liveW cs) : ∃ g off ca pk ck, cs = [.string ⟨#[110, 49, 58, 97]⟩, .slice (some ⟨g, off, none⟩) 1 ca, .slice pk 0 ck, .string ⟨#[]⟩] ∧ w.cell? ⟨g, off + 1, none⟩ = some (.string ⟨#[117]⟩) := by
  unfold liveW TrC at h
  obtain ⟨pa, ca, pk, ck, css, rfl, ⟨_, _, hr, _⟩, _⟩ := h
  rcases hr with h | ⟨g, off, rfl, hc⟩
  · simp [acells, strs] at h
  · exact ⟨g, off, ca, pk, ck, rfl, hc 1 _ rfl⟩
theorem liveX_ok : liveX.ok 1 ∧ liveX.shr ∧ liveX.few := by
  unfold liveX Tr.ok Tr.okL Tr.shr Tr.shrL Tr.few Tr.fewL
  simp [xmlnsL]
theorem liveE_ok : liveE.ok 2 ∧ liveE.ssz 1000 ∧ liveE.nms.length ≤ 40000 := by
  unfold liveE Tr.ok Tr.okL Tr.ssz Tr.sszL Tr.nms Tr.nmsL
  simp
theorem alive24_any (E : Nat → Addr) (w : World) (hg : LibG w) (hE : Errs w E) :
    Calls Tryz.prog 10 #[] w (fun e w' => e = .returned (.bool true) ∧ Below w.heap.size w w') := by
  have hn1 := Blk.new w 69 #[.string ⟨#[120, 109, 108, 110, 115, 58, 112]⟩, .string ⟨#[117]⟩]
  have hb1 := below_alloc1 w (.cells #[.string ⟨#[120, 109, 108, 110, 115, 58, 112]⟩, .string ⟨#[117]⟩] 69)
  have HB1 := Lib.hid hb1
  have hT1 : TrC (w.alloc (.cells #[.string ⟨#[120, 109, 108, 110, 115, 58, 112]⟩, .string ⟨#[117]⟩] 69)) (fun _ => True) liveX [.string ⟨#[112, 58, 97]⟩, .slice (some ⟨w.heap.size, 0, none⟩) 1 1, .slice none 0 0, .string ⟨#[]⟩] := by
    unfold liveX TrC
    refine ⟨_, 1, none, 0, [], rfl, ⟨by simp, by unfold maxLen; omega, .inr ⟨w.heap.size, 0, rfl, fun i u hu => ?_⟩, fun _ _ => trivial⟩, ⟨by simp, by unfold maxLen; omega, .inl rfl, fun _ _ => trivial⟩, by unfold TrL; rfl⟩
    rw [Nat.zero_add, hn1.cell i]
    have hu' : ([.string ⟨#[120, 109, 108, 110, 115, 58, 112]⟩, .string ⟨#[117]⟩] : List Value)[i]? = some u := hu
    simpa using hu'
  have hRS := resolve_any E liveX _ _ _ (hg.below hb1) (hE.below hb1) liveX_ok.1 liveX_ok.2.1 liveX_ok.2.2 hT1
  rw [live_res] at hRS
  have HRS := Lib.hid (hRS.mono (R' := fun e w' => ∃ pa ca pk ck, e = .returned (.tuple #[.agg #[.string ⟨#[117]⟩, .string ⟨#[97]⟩, .slice pa 0 ca, .slice pk 0 ck, .string ⟨#[]⟩], .nilIface]) ∧ TrC w' (Bt 0 w'.heap.size none) liveE [.string ⟨#[117]⟩, .string ⟨#[97]⟩, .slice pa 0 ca, .slice pk 0 ck, .string ⟨#[]⟩] ∧ Below (w.heap.size + 1) (w.alloc (.cells #[.string ⟨#[120, 109, 108, 110, 115, 58, 112]⟩, .string ⟨#[117]⟩] 69)) w') fun e w' h => h.2.elim (fun ⟨y', f0, f1, f2, f3, f4, h1, h2, h3⟩ => by
    cases h1
    obtain ⟨pa, ca, pk, ck, he⟩ := liveE_cells h3
    cases he
    exact ⟨pa, ca, pk, ck, h2, h3.imp fun b hb => ⟨Nat.zero_le _, hb.2⟩, by have := h.1; rwa [World.size_alloc] at this⟩) fun h2 => by cases h2.1)
  have HWR := Lib.hid (fun (w2 : World) cs (hb : Below w.heap.size w w2) (hT : TrC w2 (Bt 0 w2.heap.size none) liveE cs) => write_any E liveE _ cs w2 (hg.below hb) (hE.below hb) liveE_ok.1 liveE_ok.2.1 liveE_ok.2.2 hT)
  rw [live_write] at HWR
  clear hRS hT1 hb1 hn1 hg hE
  go_enter Tryz.func10, Tryz.ntmps10
  go_wp2_with (first | (go_at_call 13; refine HRS.out.mono ?_; rintro e w2 ⟨pa, ca, pk, ck, rfl, hT2, hb2⟩; have HN2 := Lib.hid (Blk.new w2 35 #[.string ⟨#[]⟩, .string ⟨#[]⟩, .slice none 0 0, .slice none 0 0, .string ⟨#[]⟩])) | (refine wpList_store (.tmp 1) (.tmp 9) 35 rfl rfl w2.heap.size 0 _ _ #[.string ⟨#[117]⟩, .string ⟨#[97]⟩, .slice pa 0 ca, .slice pk 0 ck, .string ⟨#[]⟩] rfl rfl HN2.out ?s0 ?s1 ?s2 ?_))
  case s0 => kernel_rfl
  case s1 => simp [Value.oneCell']
  case s2 => simp
  intro w3 hb3 ho3
  rw [putCells_all #[.string ⟨#[]⟩, .string ⟨#[]⟩, .slice none 0 0, .slice none 0 0, .string ⟨#[]⟩] #[.string ⟨#[117]⟩, .string ⟨#[97]⟩, .slice pa 0 ca, .slice pk 0 ck, .string ⟨#[]⟩] rfl] at hb3
  have hbX := below_alloc1 w2 (.cells #[.string ⟨#[]⟩, .string ⟨#[]⟩, .slice none 0 0, .slice none 0 0, .string ⟨#[]⟩] 35)
  have hW2 : Below w.heap.size w w2 := HB1.out.trans (hb2.mono (by omega))
  have hs2 := hW2.size
  have HW3 := Lib.hid ((hW2.trans (hbX.mono hs2)).trans (ho3.below hs2))
  have HT3 := Lib.hid (((hT2.below hbX).only ho3 (fun b hb => by have := hb.2.1; omega)).imp (Q := Bt 0 w3.heap.size none) fun b hb => ⟨hb.1, by have := hb.2.1; have := hb3.lt; omega, hb.2.2⟩)
  have HWR2 := Lib.hid ((HWR.out w3 _ HW3.out HT3.out).mono (R' := fun e w' => ∃ g off ca' pk' ck', e = .returned (.tuple #[.agg #[.string ⟨#[110, 49, 58, 97]⟩, .slice (some ⟨g, off, none⟩) 1 ca', .slice pk' 0 ck', .string ⟨#[]⟩], .nilIface]) ∧ w'.cell? ⟨g, off + 1, none⟩ = some (.string ⟨#[117]⟩) ∧ Below w3.heap.size w3 w') fun e w' h => h.2.elim (fun ⟨y', f0, f1, f2, f3, h1, h2, h3⟩ => by
    cases h1
    obtain ⟨g, off, ca', pk', ck', he, hc⟩ := liveW_cells h3
    cases he
    exact ⟨g, off, ca', pk', ck', h2, hc, h.1⟩) fun h2 => by cases h2.1)
  have a0 := (hb3.cell 0).trans rfl
  have a1 := (hb3.cell 1).trans rfl
  have a2 := (hb3.cell 2).trans rfl
  have a3 := (hb3.cell 3).trans rfl
  have a4 := (hb3.cell 4).trans rfl
  generalize w2.heap.size = g2 at *
  clear hb3 ho3 hbX hW2 hT2 hb2 HWR HRS HN2 hs2
  go_wp2_with (first | (go_at_call 20; refine HWR2.out.mono ?_; rintro e w4 ⟨g, off, ca', pk', ck', rfl, hc4, hb4⟩; have HN4 := Lib.hid (Blk.new w4 28 #[.string ⟨#[]⟩, .slice none 0 0, .slice none 0 0, .string ⟨#[]⟩]); have HC4 := Lib.hid hc4; clear hc4) | (refine wpList_store (.tmp 3) (.tmp 28) 28 rfl rfl w4.heap.size 0 _ _ #[.string ⟨#[110, 49, 58, 97]⟩, .slice (some ⟨g, off, none⟩) 1 ca', .slice pk' 0 ck', .string ⟨#[]⟩] rfl rfl HN4.out ?t0 ?t1 ?t2 ?_))
  case t0 => kernel_rfl
  case t1 => simp [Value.oneCell']
  case t2 => simp
  intro w5 hb5 ho5
  rw [putCells_all #[.string ⟨#[]⟩, .slice none 0 0, .slice none 0 0, .string ⟨#[]⟩] #[.string ⟨#[110, 49, 58, 97]⟩, .slice (some ⟨g, off, none⟩) 1 ca', .slice pk' 0 ck', .string ⟨#[]⟩] rfl] at hb5
  have hbY := below_alloc1 w4 (.cells #[.string ⟨#[]⟩, .slice none 0 0, .slice none 0 0, .string ⟨#[]⟩] 28)
  have c1 : w5.cell? ⟨g, off + 1, none⟩ = some (.string ⟨#[117]⟩) := by
    have hlt := cell_lt HC4.out
    exact (World.cell?_of_block (ho5.block g (by simp at hlt; omega))).trans (Below.keeps hbY _ _ HC4.out)
  have b0 := (hb5.cell 0).trans rfl
  have b1 := (hb5.cell 1).trans rfl
  have HW5 := Lib.hid (((HW3.out.trans (hb4.mono HW3.out.size)).trans (hbY.mono (Nat.le_trans HW3.out.size hb4.size))).trans (ho5.below (Nat.le_trans HW3.out.size hb4.size)))
  generalize w4.heap.size = g4 at *
  clear hb5 ho5 hbY hb4 a0 a1 a2 a3 a4
  go_wp2_with fail
  go_ret
  exact ⟨rfl, HW5.out⟩
end Go.Proofs.YtkghpmpmcafhkaaGreatDoor
