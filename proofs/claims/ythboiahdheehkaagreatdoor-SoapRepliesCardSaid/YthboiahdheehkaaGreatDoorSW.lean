/- SoapW -/
import Derived.Test.YthboiahdheehkaaGreatDoorBQ
import Derived.Test.YthboiahdheehkaaGreatDoorPD
import Derived.Test.YthboiahdheehkaaGreatDoorPA
open Nat renaming le_refl → nR
open Go.Proofs.Tryz renaming prog → pG
open Go.Value renaming string → S
open Go.Value renaming slice → C
open Go.Obj renaming cells → F
namespace Go.Proofs.YthboiahdheehkaaGreatDoor
section
open Go.RowKit Go.Extern.Stop Go.Stop Go.Extern
attribute [local go_sem] bs_toList
def snmV (sp lo : List UInt8) : Value := .agg #[S (bs sp), S (bs lo)]
theorem soown_any (lo : List UInt8) (w : World) : Calls pG 79 #[S (bs lo)] w (Gives w (snmV soapL lo)) := by
 have hn := Blk.new w 41 #[S (bs soapL), S (bs lo)]
 have HB := Lib.hid (below_alloc1 w (F #[S (bs soapL), S (bs lo)] 41))
 obtain ⟨z0, z1, -⟩ := hn.cc
 clear hn
 go_enter Tryz.func79, Tryz.ntmps79
 go_wp2_with fail
 refine bodyPost_ret (v := snmV soapL lo) (by simp [results, Tryz.results79, go_sem, snmV]; rfl) rfl ?_
 exact ⟨rfl, HB.out⟩
theorem saddr_any (lo : List UInt8) (w : World) : Calls pG 132 #[S (bs lo)] w (Gives w (snmV addrL lo)) := by
 have hn := Blk.new w 41 #[S (bs addrL), S (bs lo)]
 have HB := Lib.hid (below_alloc1 w (F #[S (bs addrL), S (bs lo)] 41))
 obtain ⟨z0, z1, -⟩ := hn.cc
 clear hn
 go_enter Tryz.func132, Tryz.ntmps132
 go_wp2_with fail
 refine bodyPost_ret (v := snmV addrL lo) (by simp [results, Tryz.results132, go_sem, snmV]; rfl) rfl ?_
 exact ⟨rfl, HB.out⟩
theorem Errs.formS {w : World} {E : Nat → Addr} (h : Errs w E) : w.cell? ⟨0, 0, none⟩ = some (.iface 313 (.pointer (some (E 3)))) := by
 have cE := h.cell 3 (by omega)
 simp only [errVar, errAt, List.getD_cons_zero, List.getD_cons_succ] at cE
 exact cE
theorem sofail_y (w : World) : Calls pG 72 #[.bool true] w fun e w' => e = .returned (.tuple #[]) ∧ w' = w := by
 go_enter Tryz.func72, Tryz.ntmps72
 go_wp2_with fail
 go_end0
 exact ⟨rfl, rfl⟩
theorem sofail_n (w : World) (E : Nat → Addr) (hE : Errs w E) : Calls pG 72 #[.bool false] w fun e w' => e = .panicked (panE E 3) ∧ w' = w := by
 have hc := hE.formS
 unfold panE errAt
 go_enter Tryz.func72, Tryz.ntmps72
 go_wp2_with fail
 exact ⟨rfl, rfl, rfl⟩
theorem further_any (h : Tr) (s0 s1 t : List UInt8) (va vk : Value) (w : World) (hs : h.nm = [s0, s1]) :
  Calls pG 74 #[.agg #[S (bs s0), S (bs s1), va, vk, S (bs t)]] w (Gives w (.bool (furB h))) := by
 have hf : furB h = (!s1.isEmpty && !(s0 == soapL) && !(s0 == addrL)) := by unfold furB; rw [hs]; cases s1 <;> rfl
 rw [hf]
 have hn := Blk.new w 44 #[S (bs s0), S (bs s1), va, vk, S (bs t)]
 have HB := Lib.hid (below_alloc1 w (F #[S (bs s0), S (bs s1), va, vk, S (bs t)] 44))
 obtain ⟨z0, z1, -⟩ := hn.cc
 clear hn hf hs
 go_enter Tryz.func74, Tryz.ntmps74
 go_wp2_with fail
 all_goals
  go_ret
  exact ⟨by first | rfl | (simp_all [soapL, addrL]), below_alloc1 _ _⟩
theorem simple_any (sp lo tx : List UInt8) (w : World) :
  Calls pG 131 #[snmV sp lo, S (bs tx)] w fun e w' => ∃ g, e = .returned (.agg #[S (bs sp), S (bs lo), C none 0 0, C (some ⟨g, 0, none⟩) 1 1, S ⟨#[]⟩]) ∧ w.heap.size ≤ g ∧ g < w'.heap.size ∧
   Blk w' g 44 #[S ⟨#[]⟩, S ⟨#[]⟩, C none 0 0, C none 0 0, S (bs tx)] ∧ Below w.heap.size w w' := by
 unfold snmV
 have hn := Blk.new w 41 #[S (bs sp), S (bs lo)]
 obtain ⟨z0, z1, -⟩ := hn.cc
 clear hn
 go_enter Tryz.func131, Tryz.ntmps131
 go_wp2_with fail
 have hb : Below w.heap.size w (((w.alloc (F #[S (bs sp), S (bs lo)] 41)).alloc (F #[S (bs sp), S (bs lo), C none 0 0, C (some ⟨w.heap.size + 1 + 1, 0, none⟩) 1 1, S ⟨#[]⟩] 44)).alloc (F #[S ⟨#[]⟩, S ⟨#[]⟩, C none 0 0, C none 0 0, S (bs tx)] 44)) := below_alloc (below_alloc (below_alloc1 w _) _) _
 have hB : Blk (((w.alloc (F #[S (bs sp), S (bs lo)] 41)).alloc (F #[S (bs sp), S (bs lo), C none 0 0, C (some ⟨w.heap.size + 1 + 1, 0, none⟩) 1 1, S ⟨#[]⟩] 44)).alloc (F #[S ⟨#[]⟩, S ⟨#[]⟩, C none 0 0, C none 0 0, S (bs tx)] 44)) (w.heap.size + 1) 44 #[S (bs sp), S (bs lo), C none 0 0, C (some ⟨w.heap.size + 1 + 1, 0, none⟩) 1 1, S ⟨#[]⟩] := by
  have := (Blk.new (w.alloc (F #[S (bs sp), S (bs lo)] 41)) 44 #[S (bs sp), S (bs lo), C none 0 0, C (some ⟨w.heap.size + 1 + 1, 0, none⟩) 1 1, S ⟨#[]⟩]).alloc (F #[S ⟨#[]⟩, S ⟨#[]⟩, C none 0 0, C none 0 0, S (bs tx)] 44)
  rwa [World.size_alloc] at this
 have hC : Blk (((w.alloc (F #[S (bs sp), S (bs lo)] 41)).alloc (F #[S (bs sp), S (bs lo), C none 0 0, C (some ⟨w.heap.size + 1 + 1, 0, none⟩) 1 1, S ⟨#[]⟩] 44)).alloc (F #[S ⟨#[]⟩, S ⟨#[]⟩, C none 0 0, C none 0 0, S (bs tx)] 44)) (w.heap.size + 1 + 1) 44 #[S ⟨#[]⟩, S ⟨#[]⟩, C none 0 0, C none 0 0, S (bs tx)] := by
  have := Blk.new ((w.alloc (F #[S (bs sp), S (bs lo)] 41)).alloc (F #[S (bs sp), S (bs lo), C none 0 0, C (some ⟨w.heap.size + 1 + 1, 0, none⟩) 1 1, S ⟨#[]⟩] 44)) 44 #[S ⟨#[]⟩, S ⟨#[]⟩, C none 0 0, C none 0 0, S (bs tx)]
  rwa [World.size_alloc, World.size_alloc] at this
 generalize ((w.alloc (F #[S (bs sp), S (bs lo)] 41)).alloc (F #[S (bs sp), S (bs lo), C none 0 0, C (some ⟨w.heap.size + 1 + 1, 0, none⟩) 1 1, S ⟨#[]⟩] 44)).alloc (F #[S ⟨#[]⟩, S ⟨#[]⟩, C none 0 0, C none 0 0, S (bs tx)] 44) = W at *
 obtain ⟨y0, y1, y2, y3, y4, -⟩ := hB.cc
 refine bodyPost_ret (v := .agg #[S (bs sp), S (bs lo), C none 0 0, C (some ⟨w.heap.size + 1 + 1, 0, none⟩) 1 1, S ⟨#[]⟩]) (by simp [results, Tryz.results131, go_sem, y0, y1, y2, y3, y4]) rfl ?_
 exact ⟨_, rfl, by omega, hC.lt, hC, hb⟩
end
section
open Go.RowKit
def PSl (L B0 : Nat) (t : TypeId) (n : Nat) (xs : List Tr) : Part :=
 ⟨fun v => ∃ g, v = C (some ⟨g, 0, none⟩) n n, fun w v => ∀ g, v = C (some ⟨g, 0, none⟩) n n → B0 ≤ g ∧ ∃ css B, Blk w g t css.flatten.toArray ∧ TrXL w (BtL L B0 B none) xs css ∧ B ≤ w.heap.size⟩
def PRowG (L base size : Nat) (t : TypeId) (n : Nat) (xs : List Tr) : Part :=
 ⟨fun v => ∃ p cap, v = C p n cap, fun w v => ∃ css, w.ownsRow base t size v n css.flatten ∧ TrXL w (BtL L base w.heap.size v.ownBlock) xs css⟩
theorem PSl_stays {L B0 ja j base size : Nat} {e t : TypeId} {v0 : Value} {n m : Nat} {xs : List Tr} {w w' : World} {v : Value} (hR : rT ja base size e v0 n j w w') (hv : ∀ g, v0.ownBlock = some g → L ≤ g ∧ g < B0) (h : (PSl L B0 t m xs).fact w v) : (PSl L B0 t m xs).fact w' v := fun g hg => by
 obtain ⟨h1, css, B, h2, h3, h4⟩ := h g hg
 exact ⟨h1, css, B, rT_blk hR h2 fun e => by (have := hv g e; omega), rT_trxl hR h3 fun b hb e => by
  have := hv b e
  rcases hb with hb | hb
  ·omega
  ·have := hb.1; omega, Nat.le_trans h4 (rT_size hR)⟩
theorem prow_stepG {L B0 base size : Nat} {t : TypeId} {v0 v : Value} {n : Nat} {xs ys : List Tr} {css dss : List (List Value)} {w w' : World} {B : Nat}
  (hg : w.grownBy w' v0.ownBlock) (hat : v.ownBlock = v0.ownBlock ∨ v.ownBlock = some w.heap.size) (hv : ∀ g, v0.ownBlock = some g → L ≤ g ∧ g < B0) (hB0 : base ≤ B0) (hs0 : B0 ≤ w.heap.size) (hLb : L ≤ base)
  (hl : TrXL w (BtL L base B0 v0.ownBlock) xs css) (hk : TrXL w (BtL L B0 B none) ys dss) (hB : B ≤ w.heap.size)
  (ho : w'.ownsRow base t size v n (css ++ dss).flatten) : (PRowG L base size t n (xs ++ ys)).fact w' v := by
 have hsz := hg.size
 have h1 := TrXL.imp (Q := BtL L base w'.heap.size v.ownBlock) (fun b hb => by
  rcases hb with hb | hb
  ·exact .inl hb
  ·refine .inr ⟨hb.1, by have := hb.2.1; omega, ?_⟩
   rcases hat with h | h
   ·rw [h]; exact hb.2.2
   ·rw [h]; intro e; cases e; have := hb.2.1; omega) xs css (hl.grown hg fun b hb => by
  rcases hb with hb | hb
  ·intro e; have := hv b e; omega
  ·exact hb.2.2)
 have h2 := TrXL.imp (Q := BtL L base w'.heap.size v.ownBlock) (fun b hb => by
  rcases hb with hb | hb
  ·exact .inl hb
  ·refine .inr ⟨by have := hb.1; omega, by have := hb.2.1; omega, ?_⟩
   rcases hat with h | h
   ·rw [h]; intro e; have := hv b e; have := hb.1; omega
   ·rw [h]; intro e; cases e; have := hb.2.1; omega) ys dss (hk.grown hg (fun b hb e => by
  have := hv b e
  rcases hb with hb | hb
  ·omega
  ·have := hb.1; omega))
 exact ⟨css ++ dss, ho, TrXL.app h1 h2⟩
theorem TrX.only {g : Nat} {w w' : World} {P : Nat → Prop} {x : Tr} {cs : List Value} (h : TrX w P x cs) (k : Only g w w') (hP : ∀ b, P b → b ≠ g) : TrX w' P x cs :=
 TrX.keepP (fun a v hp hc => (World.cell?_of_block (k.block a.block (hP _ hp))).trans hc) x cs h
theorem trxl_flen {w : World} {P : Nat → Prop} {k : Nat} : ∀ (xs : List Tr) (css : List (List Value)), (∀ x ∈ xs, x.nm.length = k) → TrXL w P xs css → css.flatten.length = xs.length * (k + 3)
 | [], css, _, h => by unfold TrXL at h; subst h; simp
 | x :: xs, css, hk, h => by
  unfold TrXL at h
  obtain ⟨c, cs, rfl, h1, h2⟩ := h
  rw [List.flatten_cons, List.length_append, trxl_flen xs cs (fun y hy => hk y (List.mem_cons_of_mem _ hy)) h2, h1.len, hk x (List.mem_cons_self ..), List.length_cons, Nat.add_mul, Nat.one_mul, Nat.add_comm]
theorem trxl_ones {w : World} {P : Nat → Prop} : ∀ (xs : List Tr) (css : List (List Value)), TrXL w P xs css → ∀ u ∈ css.flatten, u.oneCell' = true
 | [], css, h => by unfold TrXL at h; subst h; simp
 | x :: xs, css, h => by
  unfold TrXL at h
  obtain ⟨c, cs, rfl, h1, h2⟩ := h
  intro u hu
  rw [List.flatten_cons, List.mem_append] at hu
  rcases hu with hu | hu
  ·exact h1.one u hu
  ·exact trxl_ones xs cs h2 u hu
theorem rd_blk {w : World} {g : Nat} {t : TypeId} {xs : List Value} (h : Blk w g t xs.toArray) : Rd w (some ⟨g, 0, none⟩) xs :=
 .inr ⟨g, 0, rfl, fun i u hu => by rw [Nat.zero_add, h.cell]; simpa using hu⟩
theorem text_trx (w : World) (P : Nat → Prop) (tx : List UInt8) : TrX w P (.node [[], []] [] [] tx) [S ⟨#[]⟩, S ⟨#[]⟩, C none 0 0, C none 0 0, S (bs tx)] := by
 unfold TrX
 exact ⟨none, 0, none, 0, [], rfl, ⟨nR _, by decide, .inl rfl, fun h => absurd rfl h⟩, ⟨nR _, by decide, .inl rfl, fun a h => by cases h⟩, rfl⟩
theorem node_trx {w : World} {L B0 g n : Nat} {t : TypeId} {nm : List (List UInt8)} {tx : List UInt8} {ks : List Tr} {css : List (List Value)} (hB : B0 ≤ g) (hk : Blk w g t css.flatten.toArray) (hks : TrXL w (BtL L B0 w.heap.size none) ks css) (hn : ks.length = n) (hm : n ≤ maxLen) :
  TrX w (BtL L B0 w.heap.size none) (.node nm [] ks tx) (strs nm ++ [C none 0 0, C (some ⟨g, 0, none⟩) n n, S (bs tx)]) := by
 unfold TrX
 subst hn
 exact ⟨none, 0, some ⟨g, 0, none⟩, _, css, rfl, ⟨nR _, by decide, .inl rfl, fun h => absurd rfl h⟩, ⟨nR _, hm, rd_blk hk, fun a h => by cases h; exact .inr ⟨hB, hk.lt, by simp⟩⟩, hks⟩
theorem node_trxP {w : World} {P : Nat → Prop} {g n : Nat} {t : TypeId} {nm : List (List UInt8)} {tx : List UInt8} {ks : List Tr} {css : List (List Value)} (hB : P g) (hk : Blk w g t css.flatten.toArray) (hks : TrXL w P ks css) (hn : ks.length = n) (hm : n ≤ maxLen) :
  TrX w P (.node nm [] ks tx) (strs nm ++ [C none 0 0, C (some ⟨g, 0, none⟩) n n, S (bs tx)]) := by
 unfold TrX
 subst hn
 exact ⟨none, 0, some ⟨g, 0, none⟩, _, css, rfl, ⟨nR _, by decide, .inl rfl, fun h => absurd rfl h⟩, ⟨nR _, hm, rd_blk hk, fun a h => by cases h; exact hB⟩, hks⟩
theorem hdr_trx {w w' : World} {L g3 m cN : Nat} {pN : Option Addr} {t : TypeId} {nm : List (List UInt8)} {ks : List Tr} {css : List (List Value)} (hrow : w.ownsRow (g3 + 1) t 5 (C pN m cN) m css.flatten)
  (hks : TrXL w (BtL L (g3 + 1) w.heap.size (C pN m cN).ownBlock) ks css) (hm : ks.length = m) (hL : L ≤ g3) (k : Only g3 w w') :
  TrX w' (BtL L (g3 + 1) w'.heap.size none) (.node nm [] ks []) (strs nm ++ [C none 0 0, C pN m cN, S (bs [])]) := by
 obtain ⟨p, cap, e, h1, h2, h3, h4⟩ := owns_rdP hrow
 cases e
 unfold TrX
 subst hm
 refine ⟨none, 0, pN, cN, css, rfl, ⟨nR _, by decide, .inl rfl, fun h => absurd rfl h⟩, ⟨h1, h2, h3.keepP (P := fun b => g3 + 1 ≤ b) (fun a ha => (h4 a ha).1) (fun a v hp hc => (World.cell?_of_block (k.block a.block (by omega))).trans hc), fun a ha => .inr ⟨(h4 a ha).1, by rw [k.size]; exact (h4 a ha).2, by simp⟩⟩, ?_⟩
 refine TrXL.imp (fun b hb => ?_) _ _ (hks.only k fun b hb => ?_)
 ·rcases hb with hb | hb
  ·exact .inl hb
  ·exact .inr ⟨hb.1, by rw [k.size]; exact hb.2.1, by simp⟩
 ·rcases hb with hb | hb
  ·omega
  ·have := hb.1; omega
theorem simp_trx {w : World} {L B0 g : Nat} {sp lo tx : List UInt8} (hB : B0 ≤ g) (hk : Blk w g 44 #[S ⟨#[]⟩, S ⟨#[]⟩, C none 0 0, C none 0 0, S (bs tx)]) :
  TrX w (BtL L B0 w.heap.size none) (simpT sp lo tx) [S (bs sp), S (bs lo), C none 0 0, C (some ⟨g, 0, none⟩) 1 1, S ⟨#[]⟩] :=
 node_trx (nm := [sp, lo]) (tx := []) (css := [[S ⟨#[]⟩, S ⟨#[]⟩, C none 0 0, C none 0 0, S (bs tx)]]) hB hk (TrXL.one (text_trx w _ tx)) rfl (by decide)
theorem TrX.high {w w' : World} {L B0 B : Nat} {x : Tr} {cs : List Value} (h : TrX w (BtL L B0 B none) x cs) (hb : Below w.heap.size w w') (hB : B ≤ w.heap.size) : TrX w' (BtL L B0 w'.heap.size none) x cs :=
 TrX.imp (fun b hb' => hb'.imp id fun h => ⟨h.1, by have := h.2.1; have := hb.size; omega, h.2.2⟩) x cs (h.below hb)
theorem TrXL.high {w w' : World} {L B0 B : Nat} {x : List Tr} {cs : List (List Value)} (h : TrXL w (BtL L B0 B none) x cs) (hb : Below w.heap.size w w') (hB : B ≤ w.heap.size) : TrXL w' (BtL L B0 w'.heap.size none) x cs :=
 TrXL.imp (fun b hb' => hb'.imp id fun h => ⟨h.1, by have := h.2.1; have := hb.size; omega, h.2.2⟩) x cs (h.below hb)
theorem elem25_info : (pG.info? 44).map (fun i => (i.zero, i.size, i.bytes)) = some (some (.agg #[S ⟨#[]⟩, S ⟨#[]⟩, C none 0 0, C none 0 0, S ⟨#[]⟩]), 5, 96) := by kernel_rfl
end
end Go.Proofs.YthboiahdheehkaaGreatDoor
