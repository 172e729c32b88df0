/-
  SpL: the chapter's example (alive), plainly; alive.
  SpLQ: SpacesPrefixes: the three trees in memory.
-/
import Derived.Test.YtlkghhnfjfhedaaGreatDoorPO
namespace Go.Proofs.YtlkghhnfjfhedaaGreatDoor
open Go.RowKit
attribute [local go_sem] bs_toList

/-- p:a of xmlns:p='u' -/
def liveX : Tr := .node [[112, 58, 97]] [[xmlnsL ++ [58, 112], [117]]] [] []
def liveE : Tr := .node [[117], [97]] [] [] []
theorem live_res : resolveF liveX = some liveE := by rfl
def liveW : Tr := .node [[110, 49, 58, 97]] [[xmlnsL ++ [58, 110, 49], [117]]] [] []
theorem live_write : writeF liveE = some liveW := by kernel_rfl
theorem liveE_cells {w : World} {P : Nat → Prop} {cs : List Value} (h : TrC w P liveE cs) : ∃ pa ca pk ck, cs = [.string ⟨#[117]⟩, .string ⟨#[97]⟩, .slice pa 0 ca, .slice pk 0 ck, .string ⟨#[]⟩] := by
  unfold liveE TrC at h
  obtain ⟨pa, ca, pk, ck, css, rfl, _⟩ := h
  exact ⟨pa, ca, pk, ck, rfl⟩
theorem liveW_cells {w : World} {P : Nat → Prop} {cs : List Value} (h : TrC w P liveW cs) : ∃ g off ca pk ck, cs = [.string ⟨#[110, 49, 58, 97]⟩, .slice (some ⟨g, off, none⟩) 1 ca, .slice pk 0 ck, .string ⟨#[]⟩] ∧ w.cell? ⟨g, off + 1, none⟩ = some (.string ⟨#[117]⟩) := by
  unfold liveW TrC at h
  obtain ⟨pa, ca, pk, ck, css, rfl, ⟨_, _, hr, _⟩, _⟩ := h
  rcases hr with h | ⟨g, off, rfl, hc⟩
  · simp [acells, strs] at h
  · exact ⟨g, off, ca, pk, ck, rfl, hc 1 _ rfl⟩
theorem liveX_ok : liveX.ok 1 ∧ liveX.shr ∧ liveX.few := by
  unfold liveX Tr.ok Tr.okL Tr.shr Tr.shrL Tr.few Tr.fewL
  simp [xmlnsL]
theorem liveE_ok : liveE.ok 2 ∧ liveE.ssz 1000 ∧ liveE.nms.length ≤ 40000 := by
  unfold liveE Tr.ok Tr.okL Tr.ssz Tr.sszL Tr.nms Tr.nmsL
  simp
set_option maxRecDepth 20000 in
set_option maxHeartbeats 4000000 in
theorem alive24_any (E : Nat → Addr) (w : World) (hg : LibG w) (hE : Errs w E) :
    Calls Tryz.prog 6 #[] w (fun e w' => e = .returned (.bool true) ∧ Below w.heap.size w w') := by
  have hn1 := Blk.new w 65 #[.string ⟨#[120, 109, 108, 110, 115, 58, 112]⟩, .string ⟨#[117]⟩]
  have hb1 := below_alloc1 w (.cells #[.string ⟨#[120, 109, 108, 110, 115, 58, 112]⟩, .string ⟨#[117]⟩] 65)
  have HB1 := Lib.hid hb1
  have hT1 : TrC (w.alloc (.cells #[.string ⟨#[120, 109, 108, 110, 115, 58, 112]⟩, .string ⟨#[117]⟩] 65)) (fun _ => True) liveX [.string ⟨#[112, 58, 97]⟩, .slice (some ⟨w.heap.size, 0, none⟩) 1 1, .slice none 0 0, .string ⟨#[]⟩] := by
    unfold liveX TrC
    refine ⟨_, 1, none, 0, [], rfl, ⟨by simp, by unfold maxLen; omega, .inr ⟨w.heap.size, 0, rfl, fun i u hu => ?_⟩, fun _ _ => trivial⟩, ⟨by simp, by unfold maxLen; omega, .inl rfl, fun _ _ => trivial⟩, by unfold TrL; rfl⟩
    rw [Nat.zero_add, hn1.cell i]
    have hu' : ([.string ⟨#[120, 109, 108, 110, 115, 58, 112]⟩, .string ⟨#[117]⟩] : List Value)[i]? = some u := hu
    simpa using hu'
  have hRS := resolve_any E liveX _ _ _ (hg.below hb1) (hE.below hb1) liveX_ok.1 liveX_ok.2.1 liveX_ok.2.2 hT1
  rw [live_res] at hRS
  have HRS := Lib.hid (hRS.mono (R' := fun e w' => ∃ pa ca pk ck, e = .returned (.tuple #[.agg #[.string ⟨#[117]⟩, .string ⟨#[97]⟩, .slice pa 0 ca, .slice pk 0 ck, .string ⟨#[]⟩], .nilIface]) ∧ TrC w' (Bt 0 w'.heap.size none) liveE [.string ⟨#[117]⟩, .string ⟨#[97]⟩, .slice pa 0 ca, .slice pk 0 ck, .string ⟨#[]⟩] ∧ Below (w.heap.size + 1) (w.alloc (.cells #[.string ⟨#[120, 109, 108, 110, 115, 58, 112]⟩, .string ⟨#[117]⟩] 65)) w') fun e w' h => h.2.elim (fun ⟨y', f0, f1, f2, f3, f4, h1, h2, h3⟩ => by
    cases h1
    obtain ⟨pa, ca, pk, ck, he⟩ := liveE_cells h3
    cases he
    exact ⟨pa, ca, pk, ck, h2, h3.imp fun b hb => ⟨Nat.zero_le _, hb.2⟩, by have := h.1; rwa [World.size_alloc] at this⟩) fun h2 => by cases h2.1)
  have HWR := Lib.hid (fun (w2 : World) cs (hb : Below w.heap.size w w2) (hT : TrC w2 (Bt 0 w2.heap.size none) liveE cs) => write_any E liveE _ cs w2 (hg.below hb) (hE.below hb) liveE_ok.1 liveE_ok.2.1 liveE_ok.2.2 hT)
  rw [live_write] at HWR
  clear hRS hT1 hb1 hn1 hg hE
  go_enter Tryz.func6, Tryz.ntmps6
  go_wp2_with (first | (go_at_call 9; refine HRS.out.mono ?_; rintro e w2 ⟨pa, ca, pk, ck, rfl, hT2, hb2⟩; have HN2 := Lib.hid (Blk.new w2 35 #[.string ⟨#[]⟩, .string ⟨#[]⟩, .slice none 0 0, .slice none 0 0, .string ⟨#[]⟩])) | (refine wpList_store (.tmp 1) (.tmp 9) 35 rfl rfl w2.heap.size 0 _ _ #[.string ⟨#[117]⟩, .string ⟨#[97]⟩, .slice pa 0 ca, .slice pk 0 ck, .string ⟨#[]⟩] rfl rfl HN2.out ?s0 ?s1 ?s2 ?_))
  case s0 => kernel_rfl
  case s1 => simp [Value.oneCell']
  case s2 => simp
  intro w3 hb3 ho3
  rw [putCells_all #[.string ⟨#[]⟩, .string ⟨#[]⟩, .slice none 0 0, .slice none 0 0, .string ⟨#[]⟩] #[.string ⟨#[117]⟩, .string ⟨#[97]⟩, .slice pa 0 ca, .slice pk 0 ck, .string ⟨#[]⟩] rfl] at hb3
  have hbX := below_alloc1 w2 (.cells #[.string ⟨#[]⟩, .string ⟨#[]⟩, .slice none 0 0, .slice none 0 0, .string ⟨#[]⟩] 35)
  have hW2 : Below w.heap.size w w2 := HB1.out.trans (hb2.mono (by omega))
  have hs2 := hW2.size
  have HW3 := Lib.hid ((hW2.trans (hbX.mono hs2)).trans (ho3.below hs2))
  have HT3 := Lib.hid (((hT2.below hbX).only ho3 (fun b hb => by have := hb.2.1; omega)).imp (Q := Bt 0 w3.heap.size none) fun b hb => ⟨hb.1, by have := hb.2.1; have := hb3.lt; omega, hb.2.2⟩)
  have HWR2 := Lib.hid ((HWR.out w3 _ HW3.out HT3.out).mono (R' := fun e w' => ∃ g off ca' pk' ck', e = .returned (.tuple #[.agg #[.string ⟨#[110, 49, 58, 97]⟩, .slice (some ⟨g, off, none⟩) 1 ca', .slice pk' 0 ck', .string ⟨#[]⟩], .nilIface]) ∧ w'.cell? ⟨g, off + 1, none⟩ = some (.string ⟨#[117]⟩) ∧ Below w3.heap.size w3 w') fun e w' h => h.2.elim (fun ⟨y', f0, f1, f2, f3, h1, h2, h3⟩ => by
    cases h1
    obtain ⟨g, off, ca', pk', ck', he, hc⟩ := liveW_cells h3
    cases he
    exact ⟨g, off, ca', pk', ck', h2, hc, h.1⟩) fun h2 => by cases h2.1)
  have a0 := (hb3.cell 0).trans rfl
  have a1 := (hb3.cell 1).trans rfl
  have a2 := (hb3.cell 2).trans rfl
  have a3 := (hb3.cell 3).trans rfl
  have a4 := (hb3.cell 4).trans rfl
  generalize w2.heap.size = g2 at *
  clear hb3 ho3 hbX hW2 hT2 hb2 HWR HRS HN2 hs2
  go_wp2_with (first | (go_at_call 16; refine HWR2.out.mono ?_; rintro e w4 ⟨g, off, ca', pk', ck', rfl, hc4, hb4⟩; have HN4 := Lib.hid (Blk.new w4 28 #[.string ⟨#[]⟩, .slice none 0 0, .slice none 0 0, .string ⟨#[]⟩]); have HC4 := Lib.hid hc4; clear hc4) | (refine wpList_store (.tmp 3) (.tmp 28) 28 rfl rfl w4.heap.size 0 _ _ #[.string ⟨#[110, 49, 58, 97]⟩, .slice (some ⟨g, off, none⟩) 1 ca', .slice pk' 0 ck', .string ⟨#[]⟩] rfl rfl HN4.out ?t0 ?t1 ?t2 ?_))
  case t0 => kernel_rfl
  case t1 => simp [Value.oneCell']
  case t2 => simp
  intro w5 hb5 ho5
  rw [putCells_all #[.string ⟨#[]⟩, .slice none 0 0, .slice none 0 0, .string ⟨#[]⟩] #[.string ⟨#[110, 49, 58, 97]⟩, .slice (some ⟨g, off, none⟩) 1 ca', .slice pk' 0 ck', .string ⟨#[]⟩] rfl] at hb5
  have hbY := below_alloc1 w4 (.cells #[.string ⟨#[]⟩, .slice none 0 0, .slice none 0 0, .string ⟨#[]⟩] 28)
  have c1 : w5.cell? ⟨g, off + 1, none⟩ = some (.string ⟨#[117]⟩) := by
    have hlt := cell_lt HC4.out
    exact (World.cell?_of_block (ho5.block g (by simp at hlt; omega))).trans (Below.keeps hbY _ _ HC4.out)
  have b0 := (hb5.cell 0).trans rfl
  have b1 := (hb5.cell 1).trans rfl
  have HW5 := Lib.hid (((HW3.out.trans (hb4.mono HW3.out.size)).trans (hbY.mono (Nat.le_trans HW3.out.size hb4.size))).trans (ho5.below (Nat.le_trans HW3.out.size hb4.size)))
  generalize w4.heap.size = g4 at *
  clear hb5 ho5 hbY hb4 a0 a1 a2 a3 a4
  go_wp2_with fail
  go_ret
  exact ⟨rfl, HW5.out⟩
end Go.Proofs.YtlkghhnfjfhedaaGreatDoor

namespace Go.Proofs.YtlkghhnfjfhedaaGreatDoor
open Go.RowKit
attribute [local go_sem] bs_toList

theorem resolve_sp (E : Nat → Addr) (x : Tr) (P : Nat → Prop) (cx : List Value) (w : World) (o : Option Tr) (ho : resolveF x = o) (hg : LibG w) (hE : Errs w E) (hok : x.ok 1 ∧ x.shr ∧ x.few) (hT : TrC w P x cx) :
    Calls Tryz.prog 9 #[.agg cx.toArray] w fun e w' => ∃ f0 f1 f2 f3 f4 er, e = .returned (.tuple #[.agg #[f0, f1, f2, f3, f4], er]) ∧ (f0.oneCell' = true ∧ f1.oneCell' = true ∧ f2.oneCell' = true ∧ f3.oneCell' = true ∧ f4.oneCell' = true) ∧ Below w.heap.size w w' ∧
      (∀ y, o = some y → (er = .nilIface ∧ TrC w' (Bt 0 w'.heap.size none) y [f0, f1, f2, f3, f4])) ∧ (o = none → er = errAt (E 3)) := by
  subst ho
  refine (resolve_any E x P cx w hg hE hok.1 hok.2.1 hok.2.2 hT).mono ?_
  rintro e w' ⟨hb, h⟩
  rcases h with ⟨y, f0, f1, f2, f3, f4, h1, rfl, h3⟩ | ⟨h1, rfl⟩
  · have hal := h3.one
    exact ⟨f0, f1, f2, f3, f4, _, rfl, ⟨hal _ (by simp), hal _ (by simp), hal _ (by simp), hal _ (by simp), hal _ (by simp)⟩, hb, fun y' hy => by rw [h1] at hy; cases hy; exact ⟨rfl, h3.imp fun b hb => ⟨Nat.zero_le _, hb.2⟩⟩, fun h => by rw [h1] at h; cases h⟩
  · exact ⟨_, _, _, _, _, _, rfl, ⟨rfl, rfl, rfl, rfl, rfl⟩, hb, fun y (hy : resolveF x = some y) => (by rw [h1] at hy; cases hy), fun _ => rfl⟩
theorem tr_leaf {w : World} {g : Nat} {a0 a1 nm : List UInt8} (hb : Blk w g 65 #[.string (bs a0), .string (bs a1)]) : TrC w (fun _ => True) (kOf nm [[a0, a1]]) [.string (bs nm), .slice (some ⟨g, 0, none⟩) 1 1, .slice none 0 0, .string ⟨#[]⟩] := by
  unfold kOf TrC
  refine ⟨_, 1, none, 0, [], rfl, ⟨by simp, by unfold maxLen; omega, .inr ⟨g, 0, rfl, fun i u hu => ?_⟩, fun _ _ => trivial⟩, ⟨by simp, by unfold maxLen; omega, .inl rfl, fun _ _ => trivial⟩, by unfold TrL; rfl⟩
  rw [Nat.zero_add, hb.cell i]
  have hu' : ([.string (bs a0), .string (bs a1)] : List Value)[i]? = some u := hu
  simpa using hu'
theorem tr_leaf0 (w : World) (nm : List UInt8) : TrC w (fun _ => True) (kOf nm []) [.string (bs nm), .slice none 0 0, .slice none 0 0, .string ⟨#[]⟩] := by
  unfold kOf TrC
  exact ⟨none, 0, none, 0, [], rfl, ⟨by simp, by unfold maxLen; omega, .inl rfl, fun _ _ => trivial⟩, ⟨by simp, by unfold maxLen; omega, .inl rfl, fun _ _ => trivial⟩, by unfold TrL; rfl⟩
theorem tr_root {w : World} {g : Nat} {ats : List (List (List UInt8))} {pa : Option Addr} {ca : Nat} {k : Tr} {v0 v1 v2 v3 : Value} (hb : Blk w g 28 #[v0, v1, v2, v3]) (hk : TrC w (fun _ => True) k [v0, v1, v2, v3]) (ha : ats.length ≤ ca ∧ ca ≤ maxLen ∧ Rd w pa (acells ats)) :
    TrC w (fun _ => True) (rOf ats k) [.string ⟨#[114]⟩, .slice pa ats.length ca, .slice (some ⟨g, 0, none⟩) 1 1, .string ⟨#[]⟩] := by
  unfold rOf TrC
  refine ⟨pa, ca, some ⟨g, 0, none⟩, 1, [[v0, v1, v2, v3]], rfl, ⟨ha.1, ha.2.1, ha.2.2, fun _ _ => trivial⟩, ⟨by simp, by unfold maxLen; omega, .inr ⟨g, 0, rfl, fun i u hu => ?_⟩, fun _ _ => trivial⟩, ?_⟩
  · rw [Nat.zero_add, hb.cell i]
    have hu' : [v0, v1, v2, v3][i]? = some u := hu
    simpa using hu'
  · unfold TrL
    exact ⟨_, [], rfl, hk, by unfold TrL; rfl⟩
def spW0 (w : World) (p sp lo : List UInt8) : World := w
def spW1 (w : World) (p sp lo : List UInt8) : World := (spW0 w p sp lo).alloc (.cells #[.string ⟨#[97]⟩, .string ⟨#[98, 49]⟩, .string ⟨#[120, 45, 121]⟩] 9)
def spW2 (w : World) (p sp lo : List UInt8) : World := (spW1 w p sp lo).alloc (.cells #[.string (bs (xmlnsL ++ 58 :: p)), .string (bs sp)] 65)
def spW3 (w : World) (p sp lo : List UInt8) : World := (spW2 w p sp lo).alloc (.cells #[.string (bs (p ++ 58 :: lo)), .slice (some ⟨w.heap.size + 1, 0, none⟩) 1 1, .slice none 0 0, .string ⟨#[]⟩] 28)
def spW4 (w : World) (p sp lo : List UInt8) : World := (spW3 w p sp lo).alloc (.cells #[.string ⟨#[114]⟩, .slice none 0 0, .slice (some ⟨w.heap.size + 1 + 1, 0, none⟩) 1 1, .string ⟨#[]⟩] 28)
def spW5 (w : World) (p sp lo : List UInt8) : World := (spW4 w p sp lo).alloc (.cells #[.string ⟨#[120, 109, 108, 110, 115, 58, 113]⟩, .string (bs sp)] 65)
def spW6 (w : World) (p sp lo : List UInt8) : World := (spW5 w p sp lo).alloc (.cells #[.string (bs (113 :: 58 :: lo)), .slice none 0 0, .slice none 0 0, .string ⟨#[]⟩] 28)
def spW7 (w : World) (p sp lo : List UInt8) : World := (spW6 w p sp lo).alloc (.cells #[.string ⟨#[114]⟩, .slice (some ⟨w.heap.size + 1 + 1 + 1 + 1, 0, none⟩) 1 1, .slice (some ⟨w.heap.size + 1 + 1 + 1 + 1 + 1, 0, none⟩) 1 1, .string ⟨#[]⟩] 28)
def spW8 (w : World) (p sp lo : List UInt8) : World := (spW7 w p sp lo).alloc (.cells #[.string ⟨#[120, 109, 108, 110, 115]⟩, .string (bs sp)] 65)
def spW9 (w : World) (p sp lo : List UInt8) : World := (spW8 w p sp lo).alloc (.cells #[.string (bs lo), .slice (some ⟨w.heap.size + 1 + 1 + 1 + 1 + 1 + 1 + 1, 0, none⟩) 1 1, .slice none 0 0, .string ⟨#[]⟩] 28)
def spW10 (w : World) (p sp lo : List UInt8) : World := (spW9 w p sp lo).alloc (.cells #[.string ⟨#[114]⟩, .slice none 0 0, .slice (some ⟨w.heap.size + 1 + 1 + 1 + 1 + 1 + 1 + 1 + 1, 0, none⟩) 1 1, .string ⟨#[]⟩] 28)
theorem spW1_size (w : World) (p sp lo : List UInt8) : (spW1 w p sp lo).heap.size = w.heap.size + 1 := by unfold spW1; rw [World.size_alloc]; rfl
theorem spW2_size (w : World) (p sp lo : List UInt8) : (spW2 w p sp lo).heap.size = w.heap.size + 1 + 1 := by unfold spW2; rw [World.size_alloc, spW1_size]
theorem spW3_size (w : World) (p sp lo : List UInt8) : (spW3 w p sp lo).heap.size = w.heap.size + 1 + 1 + 1 := by unfold spW3; rw [World.size_alloc, spW2_size]
theorem spW4_size (w : World) (p sp lo : List UInt8) : (spW4 w p sp lo).heap.size = w.heap.size + 1 + 1 + 1 + 1 := by unfold spW4; rw [World.size_alloc, spW3_size]
theorem spW5_size (w : World) (p sp lo : List UInt8) : (spW5 w p sp lo).heap.size = w.heap.size + 1 + 1 + 1 + 1 + 1 := by unfold spW5; rw [World.size_alloc, spW4_size]
theorem spW6_size (w : World) (p sp lo : List UInt8) : (spW6 w p sp lo).heap.size = w.heap.size + 1 + 1 + 1 + 1 + 1 + 1 := by unfold spW6; rw [World.size_alloc, spW5_size]
theorem spW7_size (w : World) (p sp lo : List UInt8) : (spW7 w p sp lo).heap.size = w.heap.size + 1 + 1 + 1 + 1 + 1 + 1 + 1 := by unfold spW7; rw [World.size_alloc, spW6_size]
theorem spW8_size (w : World) (p sp lo : List UInt8) : (spW8 w p sp lo).heap.size = w.heap.size + 1 + 1 + 1 + 1 + 1 + 1 + 1 + 1 := by unfold spW8; rw [World.size_alloc, spW7_size]
theorem spW9_size (w : World) (p sp lo : List UInt8) : (spW9 w p sp lo).heap.size = w.heap.size + 1 + 1 + 1 + 1 + 1 + 1 + 1 + 1 + 1 := by unfold spW9; rw [World.size_alloc, spW8_size]
theorem spW10_size (w : World) (p sp lo : List UInt8) : (spW10 w p sp lo).heap.size = w.heap.size + 1 + 1 + 1 + 1 + 1 + 1 + 1 + 1 + 1 + 1 := by unfold spW10; rw [World.size_alloc, spW9_size]
theorem spW_below (w : World) (p sp lo : List UInt8) : Below w.heap.size w (spW10 w p sp lo) := below_alloc (below_alloc (below_alloc (below_alloc (below_alloc (below_alloc (below_alloc (below_alloc (below_alloc (below_alloc1 w _) _) _) _) _) _) _) _) _) _
theorem spW_b1 (w : World) (p sp lo : List UInt8) : Blk (spW10 w p sp lo) (w.heap.size) 9 #[.string ⟨#[97]⟩, .string ⟨#[98, 49]⟩, .string ⟨#[120, 45, 121]⟩] := by
  have h := Blk.new w 9 #[.string ⟨#[97]⟩, .string ⟨#[98, 49]⟩, .string ⟨#[120, 45, 121]⟩]
  exact ((((((((h.alloc _).alloc _).alloc _).alloc _).alloc _).alloc _).alloc _).alloc _).alloc _
theorem spW_b2 (w : World) (p sp lo : List UInt8) : Blk (spW10 w p sp lo) (w.heap.size + 1) 65 #[.string (bs (xmlnsL ++ 58 :: p)), .string (bs sp)] := by
  have h := Blk.new (spW1 w p sp lo) 65 #[.string (bs (xmlnsL ++ 58 :: p)), .string (bs sp)]
  rw [spW1_size] at h
  exact (((((((h.alloc _).alloc _).alloc _).alloc _).alloc _).alloc _).alloc _).alloc _
theorem spW_b3 (w : World) (p sp lo : List UInt8) : Blk (spW10 w p sp lo) (w.heap.size + 1 + 1) 28 #[.string (bs (p ++ 58 :: lo)), .slice (some ⟨w.heap.size + 1, 0, none⟩) 1 1, .slice none 0 0, .string ⟨#[]⟩] := by
  have h := Blk.new (spW2 w p sp lo) 28 #[.string (bs (p ++ 58 :: lo)), .slice (some ⟨w.heap.size + 1, 0, none⟩) 1 1, .slice none 0 0, .string ⟨#[]⟩]
  rw [spW2_size] at h
  exact ((((((h.alloc _).alloc _).alloc _).alloc _).alloc _).alloc _).alloc _
theorem spW_b4 (w : World) (p sp lo : List UInt8) : Blk (spW10 w p sp lo) (w.heap.size + 1 + 1 + 1) 28 #[.string ⟨#[114]⟩, .slice none 0 0, .slice (some ⟨w.heap.size + 1 + 1, 0, none⟩) 1 1, .string ⟨#[]⟩] := by
  have h := Blk.new (spW3 w p sp lo) 28 #[.string ⟨#[114]⟩, .slice none 0 0, .slice (some ⟨w.heap.size + 1 + 1, 0, none⟩) 1 1, .string ⟨#[]⟩]
  rw [spW3_size] at h
  exact (((((h.alloc _).alloc _).alloc _).alloc _).alloc _).alloc _
theorem spW_b5 (w : World) (p sp lo : List UInt8) : Blk (spW10 w p sp lo) (w.heap.size + 1 + 1 + 1 + 1) 65 #[.string ⟨#[120, 109, 108, 110, 115, 58, 113]⟩, .string (bs sp)] := by
  have h := Blk.new (spW4 w p sp lo) 65 #[.string ⟨#[120, 109, 108, 110, 115, 58, 113]⟩, .string (bs sp)]
  rw [spW4_size] at h
  exact ((((h.alloc _).alloc _).alloc _).alloc _).alloc _
theorem spW_b6 (w : World) (p sp lo : List UInt8) : Blk (spW10 w p sp lo) (w.heap.size + 1 + 1 + 1 + 1 + 1) 28 #[.string (bs (113 :: 58 :: lo)), .slice none 0 0, .slice none 0 0, .string ⟨#[]⟩] := by
  have h := Blk.new (spW5 w p sp lo) 28 #[.string (bs (113 :: 58 :: lo)), .slice none 0 0, .slice none 0 0, .string ⟨#[]⟩]
  rw [spW5_size] at h
  exact (((h.alloc _).alloc _).alloc _).alloc _
theorem spW_b7 (w : World) (p sp lo : List UInt8) : Blk (spW10 w p sp lo) (w.heap.size + 1 + 1 + 1 + 1 + 1 + 1) 28 #[.string ⟨#[114]⟩, .slice (some ⟨w.heap.size + 1 + 1 + 1 + 1, 0, none⟩) 1 1, .slice (some ⟨w.heap.size + 1 + 1 + 1 + 1 + 1, 0, none⟩) 1 1, .string ⟨#[]⟩] := by
  have h := Blk.new (spW6 w p sp lo) 28 #[.string ⟨#[114]⟩, .slice (some ⟨w.heap.size + 1 + 1 + 1 + 1, 0, none⟩) 1 1, .slice (some ⟨w.heap.size + 1 + 1 + 1 + 1 + 1, 0, none⟩) 1 1, .string ⟨#[]⟩]
  rw [spW6_size] at h
  exact ((h.alloc _).alloc _).alloc _
theorem spW_b8 (w : World) (p sp lo : List UInt8) : Blk (spW10 w p sp lo) (w.heap.size + 1 + 1 + 1 + 1 + 1 + 1 + 1) 65 #[.string ⟨#[120, 109, 108, 110, 115]⟩, .string (bs sp)] := by
  have h := Blk.new (spW7 w p sp lo) 65 #[.string ⟨#[120, 109, 108, 110, 115]⟩, .string (bs sp)]
  rw [spW7_size] at h
  exact (h.alloc _).alloc _
theorem spW_b9 (w : World) (p sp lo : List UInt8) : Blk (spW10 w p sp lo) (w.heap.size + 1 + 1 + 1 + 1 + 1 + 1 + 1 + 1) 28 #[.string (bs lo), .slice (some ⟨w.heap.size + 1 + 1 + 1 + 1 + 1 + 1 + 1, 0, none⟩) 1 1, .slice none 0 0, .string ⟨#[]⟩] := by
  have h := Blk.new (spW8 w p sp lo) 28 #[.string (bs lo), .slice (some ⟨w.heap.size + 1 + 1 + 1 + 1 + 1 + 1 + 1, 0, none⟩) 1 1, .slice none 0 0, .string ⟨#[]⟩]
  rw [spW8_size] at h
  exact h.alloc _
theorem spW_b10 (w : World) (p sp lo : List UInt8) : Blk (spW10 w p sp lo) (w.heap.size + 1 + 1 + 1 + 1 + 1 + 1 + 1 + 1 + 1) 28 #[.string ⟨#[114]⟩, .slice none 0 0, .slice (some ⟨w.heap.size + 1 + 1 + 1 + 1 + 1 + 1 + 1 + 1, 0, none⟩) 1 1, .string ⟨#[]⟩] := by
  have h := Blk.new (spW9 w p sp lo) 28 #[.string ⟨#[114]⟩, .slice none 0 0, .slice (some ⟨w.heap.size + 1 + 1 + 1 + 1 + 1 + 1 + 1 + 1, 0, none⟩) 1 1, .string ⟨#[]⟩]
  rw [spW9_size] at h
  exact h
theorem rd_attr {w : World} {g : Nat} {a0 a1 : List UInt8} (hb : Blk w g 65 #[.string (bs a0), .string (bs a1)]) : ([[a0, a1]] : List (List (List UInt8))).length ≤ 1 ∧ 1 ≤ maxLen ∧ Rd w (some ⟨g, 0, none⟩) (acells [[a0, a1]]) := by
  refine ⟨by simp, by unfold maxLen; omega, .inr ⟨g, 0, rfl, fun i u hu => ?_⟩⟩
  rw [Nat.zero_add, hb.cell i]
  have hu' : ([.string (bs a0), .string (bs a1)] : List Value)[i]? = some u := hu
  simpa using hu'
theorem rd_none (w : World) : ([] : List (List (List UInt8))).length ≤ 0 ∧ 0 ≤ maxLen ∧ Rd w none (acells []) := ⟨by simp, by unfold maxLen; omega, .inl rfl⟩
theorem spW_one (w : World) (p sp lo : List UInt8) : TrC (spW10 w p sp lo) (fun _ => True) (spOne p sp lo) [.string ⟨#[114]⟩, .slice none 0 0, .slice (some ⟨w.heap.size + 1 + 1, 0, none⟩) 1 1, .string ⟨#[]⟩] :=
  tr_root (spW_b3 w p sp lo) (tr_leaf (spW_b2 w p sp lo)) (rd_none _)
theorem spW_two (w : World) (p sp lo : List UInt8) : TrC (spW10 w p sp lo) (fun _ => True) (spTwo [113] sp lo) [.string ⟨#[114]⟩, .slice (some ⟨w.heap.size + 1 + 1 + 1 + 1, 0, none⟩) 1 1, .slice (some ⟨w.heap.size + 1 + 1 + 1 + 1 + 1, 0, none⟩) 1 1, .string ⟨#[]⟩] :=
  tr_root (spW_b6 w p sp lo) (tr_leaf0 _ _) (rd_attr (spW_b5 w p sp lo))
theorem spW_three (w : World) (p sp lo : List UInt8) : TrC (spW10 w p sp lo) (fun _ => True) (spThree sp lo) [.string ⟨#[114]⟩, .slice none 0 0, .slice (some ⟨w.heap.size + 1 + 1 + 1 + 1 + 1 + 1 + 1 + 1, 0, none⟩) 1 1, .string ⟨#[]⟩] :=
  tr_root (spW_b9 w p sp lo) (tr_leaf (spW_b8 w p sp lo)) (rd_none _)
theorem spOut_cells {w : World} {P : Nat → Prop} {sp lo : List UInt8} {cs : List Value} (h : TrC w P (spOut sp lo) cs) : ∃ pa ca g off ck, cs = [.string ⟨#[]⟩, .string ⟨#[114]⟩, .slice pa 0 ca, .slice (some ⟨g, off, none⟩) 1 ck, .string ⟨#[]⟩] ∧ w.cell? ⟨g, off, none⟩ = some (.string (bs sp)) ∧ w.cell? ⟨g, off + 1, none⟩ = some (.string (bs lo)) := by
  unfold spOut TrC at h
  obtain ⟨pa, ca, pk, ck, css, rfl, _, ⟨_, _, hr, _⟩, hL⟩ := h
  unfold TrL at hL
  obtain ⟨c, cs', rfl, hc, _⟩ := hL
  unfold TrC at hc
  obtain ⟨pa', ca', pk', ck', css', rfl, _⟩ := hc
  rcases hr with h | ⟨g, off, rfl, hc⟩
  · simp [strs] at h
  · exact ⟨pa, ca, g, off, ck, rfl, hc 0 _ rfl, hc 1 _ rfl⟩
def YesR (sp lo : List UInt8) (w : World) (e : Ending) (w' : World) : Prop :=
  ∃ pa ca g off ck, e = .returned (.tuple #[.agg #[.string ⟨#[]⟩, .string ⟨#[114]⟩, .slice pa 0 ca, .slice (some ⟨g, off, none⟩) 1 ck, .string ⟨#[]⟩], .nilIface]) ∧ TrC w' (fun _ => True) (spOut sp lo) [.string ⟨#[]⟩, .string ⟨#[114]⟩, .slice pa 0 ca, .slice (some ⟨g, off, none⟩) 1 ck, .string ⟨#[]⟩] ∧
    w'.cell? ⟨g, off, none⟩ = some (.string (bs sp)) ∧ w'.cell? ⟨g, off + 1, none⟩ = some (.string (bs lo)) ∧ Below w.heap.size w w'
theorem resolve_y (E : Nat → Addr) (x : Tr) (P : Nat → Prop) (cx : List Value) (w : World) {sp lo : List UInt8} (ho : resolveF x = some (spOut sp lo)) (hg : LibG w) (hE : Errs w E) (hok : x.ok 1 ∧ x.shr ∧ x.few) (hT : TrC w P x cx) :
    Calls Tryz.prog 9 #[.agg cx.toArray] w (YesR sp lo w) := by
  refine (resolve_sp E x P cx w _ ho hg hE hok hT).mono ?_
  rintro e w' ⟨f0, f1, f2, f3, f4, er, rfl, _, hb, hy, _⟩
  obtain ⟨rfl, hT'⟩ := hy _ rfl
  obtain ⟨pa, ca, g, off, ck, he, h1, h2⟩ := spOut_cells hT'
  cases he
  exact ⟨pa, ca, g, off, ck, rfl, hT'.imp fun _ _ => trivial, h1, h2, hb⟩
theorem resolve_n (E : Nat → Addr) (x : Tr) (P : Nat → Prop) (cx : List Value) (w : World) (ho : resolveF x = none) (hg : LibG w) (hE : Errs w E) (hok : x.ok 1 ∧ x.shr ∧ x.few) (hT : TrC w P x cx) :
    Calls Tryz.prog 9 #[.agg cx.toArray] w fun e w' => e = .returned (.tuple #[.agg #[.string ⟨#[]⟩, .string ⟨#[]⟩, .slice none 0 0, .slice none 0 0, .string ⟨#[]⟩], .iface 207 (.pointer (some (E 3)))]) ∧ Below w.heap.size w w' := by
  refine (resolve_any E x P cx w hg hE hok.1 hok.2.1 hok.2.2 hT).mono ?_
  rintro e w' ⟨hb, h⟩
  rcases h with ⟨y, f0, f1, f2, f3, f4, h1, _, _⟩ | ⟨_, rfl⟩
  · rw [ho] at h1
    cases h1
  · exact ⟨rfl, hb⟩
theorem sp_bounds {p sp lo : List UInt8} (hp : p.length ≤ 3) (h1 : sp.length ≤ 100) (h2 : lo.length ≤ 100) : ((spOne p sp lo).ok 1 ∧ (spOne p sp lo).shr ∧ (spOne p sp lo).few) ∧ ((spTwo [113] sp lo).ok 1 ∧ (spTwo [113] sp lo).shr ∧ (spTwo [113] sp lo).few) ∧ ((spThree sp lo).ok 1 ∧ (spThree sp lo).shr ∧ (spThree sp lo).few) := by
  unfold spOne spTwo spThree rOf kOf Tr.ok Tr.shr Tr.few Tr.okL Tr.shrL Tr.fewL Tr.ok Tr.shr Tr.few Tr.okL Tr.shrL Tr.fewL
  have h5 : xmlnsL.length = 5 := rfl
  simp [h5]
  omega
theorem spOut_ok (sp lo : List UInt8) : (spOut sp lo).ok 2 := by
  unfold spOut Tr.ok Tr.okL Tr.ok Tr.okL
  simp
end Go.Proofs.YtlkghhnfjfhedaaGreatDoor
