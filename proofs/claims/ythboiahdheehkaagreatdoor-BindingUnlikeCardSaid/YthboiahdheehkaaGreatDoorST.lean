/- SoapW -/
import Derived.Test.YthboiahdheehkaaGreatDoorBQ
import Derived.Test.YthboiahdheehkaaGreatDoorPD
import Derived.Test.YthboiahdheehkaaGreatDoorPA
namespace Go.Proofs.YthboiahdheehkaaGreatDoor
set_option maxHeartbeats 8000000
set_option maxRecDepth 20000
open Go.RowKit Go.Extern.Stop Go.Stop Go.Extern
attribute [local go_sem] bs_toList
def snmV (sp lo : List UInt8) : Value := .agg #[.string (bs sp), .string (bs lo)]
theorem soown_any (lo : List UInt8) (w : World) : Calls Tryz.prog 79 #[.string (bs lo)] w (Gives w (snmV soapL lo)) := by
  have hn := Blk.new w 41 #[.string (bs soapL), .string (bs lo)]
  have HB := Lib.hid (below_alloc1 w (.cells #[.string (bs soapL), .string (bs lo)] 41))
  have z0 := (hn.cell 0).trans rfl
  have z1 := (hn.cell 1).trans rfl
  clear hn
  go_enter Tryz.func79, Tryz.ntmps79
  go_wp2_with fail
  refine bodyPost_ret (v := snmV soapL lo) (by simp [results, Tryz.results79, go_sem, snmV]; rfl) rfl ?_
  exact ⟨rfl, HB.out⟩
theorem saddr_any (lo : List UInt8) (w : World) : Calls Tryz.prog 132 #[.string (bs lo)] w (Gives w (snmV addrL lo)) := by
  have hn := Blk.new w 41 #[.string (bs addrL), .string (bs lo)]
  have HB := Lib.hid (below_alloc1 w (.cells #[.string (bs addrL), .string (bs lo)] 41))
  have z0 := (hn.cell 0).trans rfl
  have z1 := (hn.cell 1).trans rfl
  clear hn
  go_enter Tryz.func132, Tryz.ntmps132
  go_wp2_with fail
  refine bodyPost_ret (v := snmV addrL lo) (by simp [results, Tryz.results132, go_sem, snmV]; rfl) rfl ?_
  exact ⟨rfl, HB.out⟩
theorem Errs.formS {w : World} {E : Nat → Addr} (h : Errs w E) : w.cell? ⟨0, 0, none⟩ = some (.iface 313 (.pointer (some (E 3)))) := by
  have cE := h.cell 3 (by omega)
  simp only [errVar, errAt, List.getD_cons_zero, List.getD_cons_succ] at cE
  exact cE
theorem sofail_y (w : World) : Calls Tryz.prog 72 #[.bool true] w fun e w' => e = .returned (.tuple #[]) ∧ w' = w := by
  go_enter Tryz.func72, Tryz.ntmps72
  go_wp2_with fail
  go_end0
  exact ⟨rfl, rfl⟩
theorem sofail_n (w : World) (E : Nat → Addr) (hE : Errs w E) : Calls Tryz.prog 72 #[.bool false] w fun e w' => e = .panicked (panE E 3) ∧ w' = w := by
  have hc := hE.formS
  unfold panE errAt
  go_enter Tryz.func72, Tryz.ntmps72
  go_wp2_with fail
  exact ⟨rfl, rfl, rfl⟩
theorem further_any (h : Tr) (s0 s1 t : List UInt8) (va vk : Value) (w : World) (hs : h.nm = [s0, s1]) :
    Calls Tryz.prog 74 #[.agg #[.string (bs s0), .string (bs s1), va, vk, .string (bs t)]] w (Gives w (.bool (furB h))) := by
  have hf : furB h = (!s1.isEmpty && !(s0 == soapL) && !(s0 == addrL)) := by unfold furB; rw [hs]; cases s1 <;> rfl
  rw [hf]
  have hn := Blk.new w 44 #[.string (bs s0), .string (bs s1), va, vk, .string (bs t)]
  have HB := Lib.hid (below_alloc1 w (.cells #[.string (bs s0), .string (bs s1), va, vk, .string (bs t)] 44))
  have z0 := (hn.cell 0).trans rfl
  have z1 := (hn.cell 1).trans rfl
  clear hn hf hs
  go_enter Tryz.func74, Tryz.ntmps74
  go_wp2_with fail
  all_goals
    go_ret
    exact ⟨by first | rfl | (simp_all [soapL, addrL]), below_alloc1 _ _⟩
theorem simple_any (sp lo tx : List UInt8) (w : World) :
    Calls Tryz.prog 131 #[snmV sp lo, .string (bs tx)] w fun e w' => ∃ g, e = .returned (.agg #[.string (bs sp), .string (bs lo), .slice none 0 0, .slice (some ⟨g, 0, none⟩) 1 1, .string ⟨#[]⟩]) ∧ w.heap.size ≤ g ∧ g < w'.heap.size ∧
      Blk w' g 44 #[.string ⟨#[]⟩, .string ⟨#[]⟩, .slice none 0 0, .slice none 0 0, .string (bs tx)] ∧ Below w.heap.size w w' := by
  unfold snmV
  have hn := Blk.new w 41 #[.string (bs sp), .string (bs lo)]
  have z0 := (hn.cell 0).trans rfl
  have z1 := (hn.cell 1).trans rfl
  clear hn
  go_enter Tryz.func131, Tryz.ntmps131
  go_wp2_with fail
  have hb : Below w.heap.size w (((w.alloc (.cells #[.string (bs sp), .string (bs lo)] 41)).alloc (.cells #[.string (bs sp), .string (bs lo), .slice none 0 0, .slice (some ⟨w.heap.size + 1 + 1, 0, none⟩) 1 1, .string ⟨#[]⟩] 44)).alloc (.cells #[.string ⟨#[]⟩, .string ⟨#[]⟩, .slice none 0 0, .slice none 0 0, .string (bs tx)] 44)) := below_alloc (below_alloc (below_alloc1 w _) _) _
  have hB : Blk (((w.alloc (.cells #[.string (bs sp), .string (bs lo)] 41)).alloc (.cells #[.string (bs sp), .string (bs lo), .slice none 0 0, .slice (some ⟨w.heap.size + 1 + 1, 0, none⟩) 1 1, .string ⟨#[]⟩] 44)).alloc (.cells #[.string ⟨#[]⟩, .string ⟨#[]⟩, .slice none 0 0, .slice none 0 0, .string (bs tx)] 44)) (w.heap.size + 1) 44 #[.string (bs sp), .string (bs lo), .slice none 0 0, .slice (some ⟨w.heap.size + 1 + 1, 0, none⟩) 1 1, .string ⟨#[]⟩] := by
    have := (Blk.new (w.alloc (.cells #[.string (bs sp), .string (bs lo)] 41)) 44 #[.string (bs sp), .string (bs lo), .slice none 0 0, .slice (some ⟨w.heap.size + 1 + 1, 0, none⟩) 1 1, .string ⟨#[]⟩]).alloc (.cells #[.string ⟨#[]⟩, .string ⟨#[]⟩, .slice none 0 0, .slice none 0 0, .string (bs tx)] 44)
    rwa [World.size_alloc] at this
  have hC : Blk (((w.alloc (.cells #[.string (bs sp), .string (bs lo)] 41)).alloc (.cells #[.string (bs sp), .string (bs lo), .slice none 0 0, .slice (some ⟨w.heap.size + 1 + 1, 0, none⟩) 1 1, .string ⟨#[]⟩] 44)).alloc (.cells #[.string ⟨#[]⟩, .string ⟨#[]⟩, .slice none 0 0, .slice none 0 0, .string (bs tx)] 44)) (w.heap.size + 1 + 1) 44 #[.string ⟨#[]⟩, .string ⟨#[]⟩, .slice none 0 0, .slice none 0 0, .string (bs tx)] := by
    have := Blk.new ((w.alloc (.cells #[.string (bs sp), .string (bs lo)] 41)).alloc (.cells #[.string (bs sp), .string (bs lo), .slice none 0 0, .slice (some ⟨w.heap.size + 1 + 1, 0, none⟩) 1 1, .string ⟨#[]⟩] 44)) 44 #[.string ⟨#[]⟩, .string ⟨#[]⟩, .slice none 0 0, .slice none 0 0, .string (bs tx)]
    rwa [World.size_alloc, World.size_alloc] at this
  generalize ((w.alloc (.cells #[.string (bs sp), .string (bs lo)] 41)).alloc (.cells #[.string (bs sp), .string (bs lo), .slice none 0 0, .slice (some ⟨w.heap.size + 1 + 1, 0, none⟩) 1 1, .string ⟨#[]⟩] 44)).alloc (.cells #[.string ⟨#[]⟩, .string ⟨#[]⟩, .slice none 0 0, .slice none 0 0, .string (bs tx)] 44) = W at *
  have y0 := (hB.cell 0).trans rfl
  have y1 := (hB.cell 1).trans rfl
  have y2 := (hB.cell 2).trans rfl
  have y3 := (hB.cell 3).trans rfl
  have y4 := (hB.cell 4).trans rfl
  refine bodyPost_ret (v := .agg #[.string (bs sp), .string (bs lo), .slice none 0 0, .slice (some ⟨w.heap.size + 1 + 1, 0, none⟩) 1 1, .string ⟨#[]⟩]) (by simp [results, Tryz.results131, go_sem, y0, y1, y2, y3, y4]) rfl ?_
  exact ⟨_, rfl, by omega, hC.lt, hC, hb⟩
end Go.Proofs.YthboiahdheehkaaGreatDoor
namespace Go.Proofs.YthboiahdheehkaaGreatDoor
set_option maxHeartbeats 8000000
set_option maxRecDepth 20000
open Go.RowKit
def PSl (L B0 : Nat) (t : TypeId) (n : Nat) (xs : List Tr) : Part :=
  ⟨fun v => ∃ g, v = .slice (some ⟨g, 0, none⟩) n n, fun w v => ∀ g, v = .slice (some ⟨g, 0, none⟩) n n → B0 ≤ g ∧ ∃ css B, Blk w g t css.flatten.toArray ∧ TrXL w (BtL L B0 B none) xs css ∧ B ≤ w.heap.size⟩
def PRowG (L base size : Nat) (t : TypeId) (n : Nat) (xs : List Tr) : Part :=
  ⟨fun v => ∃ p cap, v = .slice p n cap, fun w v => ∃ css, w.ownsRow base t size v n css.flatten ∧ TrXL w (BtL L base w.heap.size v.ownBlock) xs css⟩
theorem PSl_stays {L B0 ja j base size : Nat} {e t : TypeId} {v0 : Value} {n m : Nat} {xs : List Tr} {w w' : World} {v : Value} (hR : rT ja base size e v0 n j w w') (hv : ∀ g, v0.ownBlock = some g → L ≤ g ∧ g < B0) (h : (PSl L B0 t m xs).fact w v) : (PSl L B0 t m xs).fact w' v := fun g hg => by
  obtain ⟨h1, css, B, h2, h3, h4⟩ := h g hg
  exact ⟨h1, css, B, rT_blk hR h2 fun e => by (have := hv g e; omega), rT_trxl hR h3 fun b hb e => by
    have := hv b e
    rcases hb with hb | hb
    · omega
    · have := hb.1; omega, Nat.le_trans h4 (rT_size hR)⟩
theorem prow_stepG {L B0 base size : Nat} {t : TypeId} {v0 v : Value} {n : Nat} {xs ys : List Tr} {css dss : List (List Value)} {w w' : World} {B : Nat}
    (hg : w.grownBy w' v0.ownBlock) (hat : v.ownBlock = v0.ownBlock ∨ v.ownBlock = some w.heap.size) (hv : ∀ g, v0.ownBlock = some g → L ≤ g ∧ g < B0) (hB0 : base ≤ B0) (hs0 : B0 ≤ w.heap.size) (hLb : L ≤ base)
    (hl : TrXL w (BtL L base B0 v0.ownBlock) xs css) (hk : TrXL w (BtL L B0 B none) ys dss) (hB : B ≤ w.heap.size)
    (ho : w'.ownsRow base t size v n (css ++ dss).flatten) : (PRowG L base size t n (xs ++ ys)).fact w' v := by
  have hsz := hg.size
  have h1 := TrXL.imp (Q := BtL L base w'.heap.size v.ownBlock) (fun b hb => by
    rcases hb with hb | hb
    · exact .inl hb
    · refine .inr ⟨hb.1, by have := hb.2.1; omega, ?_⟩
      rcases hat with h | h
      · rw [h]; exact hb.2.2
      · rw [h]; intro e; cases e; have := hb.2.1; omega) xs css (hl.grown hg fun b hb => by
    rcases hb with hb | hb
    · intro e; have := hv b e; omega
    · exact hb.2.2)
  have h2 := TrXL.imp (Q := BtL L base w'.heap.size v.ownBlock) (fun b hb => by
    rcases hb with hb | hb
    · exact .inl hb
    · refine .inr ⟨by have := hb.1; omega, by have := hb.2.1; omega, ?_⟩
      rcases hat with h | h
      · rw [h]; intro e; have := hv b e; have := hb.1; omega
      · rw [h]; intro e; cases e; have := hb.2.1; omega) ys dss (hk.grown hg (fun b hb e => by
    have := hv b e
    rcases hb with hb | hb
    · omega
    · have := hb.1; omega))
  exact ⟨css ++ dss, ho, TrXL.app h1 h2⟩
theorem TrX.only {g : Nat} {w w' : World} {P : Nat → Prop} {x : Tr} {cs : List Value} (h : TrX w P x cs) (k : Only g w w') (hP : ∀ b, P b → b ≠ g) : TrX w' P x cs :=
  TrX.keepP (fun a v hp hc => (World.cell?_of_block (k.block a.block (hP _ hp))).trans hc) x cs h
theorem trxl_flen {w : World} {P : Nat → Prop} {k : Nat} : ∀ (xs : List Tr) (css : List (List Value)), (∀ x ∈ xs, x.nm.length = k) → TrXL w P xs css → css.flatten.length = xs.length * (k + 3)
  | [], css, _, h => by unfold TrXL at h; subst h; simp
  | x :: xs, css, hk, h => by
    unfold TrXL at h
    obtain ⟨c, cs, rfl, h1, h2⟩ := h
    rw [List.flatten_cons, List.length_append, trxl_flen xs cs (fun y hy => hk y (List.mem_cons_of_mem _ hy)) h2, h1.len, hk x (List.mem_cons_self ..), List.length_cons, Nat.add_mul, Nat.one_mul, Nat.add_comm]
theorem trxl_ones {w : World} {P : Nat → Prop} : ∀ (xs : List Tr) (css : List (List Value)), TrXL w P xs css → ∀ u ∈ css.flatten, u.oneCell' = true
  | [], css, h => by unfold TrXL at h; subst h; simp
  | x :: xs, css, h => by
    unfold TrXL at h
    obtain ⟨c, cs, rfl, h1, h2⟩ := h
    intro u hu
    rw [List.flatten_cons, List.mem_append] at hu
    rcases hu with hu | hu
    · exact h1.one u hu
    · exact trxl_ones xs cs h2 u hu
theorem rd_blk {w : World} {g : Nat} {t : TypeId} {xs : List Value} (h : Blk w g t xs.toArray) : Rd w (some ⟨g, 0, none⟩) xs :=
  .inr ⟨g, 0, rfl, fun i u hu => by rw [Nat.zero_add, h.cell]; simpa using hu⟩
theorem text_trx (w : World) (P : Nat → Prop) (tx : List UInt8) : TrX w P (.node [[], []] [] [] tx) [.string ⟨#[]⟩, .string ⟨#[]⟩, .slice none 0 0, .slice none 0 0, .string (bs tx)] := by
  unfold TrX
  exact ⟨none, 0, none, 0, [], rfl, ⟨Nat.le_refl _, by decide, .inl rfl, fun h => absurd rfl h⟩, ⟨Nat.le_refl _, by decide, .inl rfl, fun a h => by cases h⟩, rfl⟩
theorem node_trx {w : World} {L B0 g n : Nat} {t : TypeId} {nm : List (List UInt8)} {tx : List UInt8} {ks : List Tr} {css : List (List Value)} (hB : B0 ≤ g) (hk : Blk w g t css.flatten.toArray) (hks : TrXL w (BtL L B0 w.heap.size none) ks css) (hn : ks.length = n) (hm : n ≤ maxLen) :
    TrX w (BtL L B0 w.heap.size none) (.node nm [] ks tx) (strs nm ++ [.slice none 0 0, .slice (some ⟨g, 0, none⟩) n n, .string (bs tx)]) := by
  unfold TrX
  subst hn
  exact ⟨none, 0, some ⟨g, 0, none⟩, _, css, rfl, ⟨Nat.le_refl _, by decide, .inl rfl, fun h => absurd rfl h⟩, ⟨Nat.le_refl _, hm, rd_blk hk, fun a h => by cases h; exact .inr ⟨hB, hk.lt, by simp⟩⟩, hks⟩
theorem node_trxP {w : World} {P : Nat → Prop} {g n : Nat} {t : TypeId} {nm : List (List UInt8)} {tx : List UInt8} {ks : List Tr} {css : List (List Value)} (hB : P g) (hk : Blk w g t css.flatten.toArray) (hks : TrXL w P ks css) (hn : ks.length = n) (hm : n ≤ maxLen) :
    TrX w P (.node nm [] ks tx) (strs nm ++ [.slice none 0 0, .slice (some ⟨g, 0, none⟩) n n, .string (bs tx)]) := by
  unfold TrX
  subst hn
  exact ⟨none, 0, some ⟨g, 0, none⟩, _, css, rfl, ⟨Nat.le_refl _, by decide, .inl rfl, fun h => absurd rfl h⟩, ⟨Nat.le_refl _, hm, rd_blk hk, fun a h => by cases h; exact hB⟩, hks⟩
theorem hdr_trx {w w' : World} {L g3 m cN : Nat} {pN : Option Addr} {t : TypeId} {nm : List (List UInt8)} {ks : List Tr} {css : List (List Value)} (hrow : w.ownsRow (g3 + 1) t 5 (.slice pN m cN) m css.flatten)
    (hks : TrXL w (BtL L (g3 + 1) w.heap.size (Value.slice pN m cN).ownBlock) ks css) (hm : ks.length = m) (hL : L ≤ g3) (k : Only g3 w w') :
    TrX w' (BtL L (g3 + 1) w'.heap.size none) (.node nm [] ks []) (strs nm ++ [.slice none 0 0, .slice pN m cN, .string (bs [])]) := by
  obtain ⟨p, cap, e, h1, h2, h3, h4⟩ := owns_rdP hrow
  cases e
  unfold TrX
  subst hm
  refine ⟨none, 0, pN, cN, css, rfl, ⟨Nat.le_refl _, by decide, .inl rfl, fun h => absurd rfl h⟩, ⟨h1, h2, h3.keepP (P := fun b => g3 + 1 ≤ b) (fun a ha => (h4 a ha).1) (fun a v hp hc => (World.cell?_of_block (k.block a.block (by omega))).trans hc), fun a ha => .inr ⟨(h4 a ha).1, by rw [k.size]; exact (h4 a ha).2, by simp⟩⟩, ?_⟩
  refine TrXL.imp (fun b hb => ?_) _ _ (hks.only k fun b hb => ?_)
  · rcases hb with hb | hb
    · exact .inl hb
    · exact .inr ⟨hb.1, by rw [k.size]; exact hb.2.1, by simp⟩
  · rcases hb with hb | hb
    · omega
    · have := hb.1; omega
theorem simp_trx {w : World} {L B0 g : Nat} {sp lo tx : List UInt8} (hB : B0 ≤ g) (hk : Blk w g 44 #[.string ⟨#[]⟩, .string ⟨#[]⟩, .slice none 0 0, .slice none 0 0, .string (bs tx)]) :
    TrX w (BtL L B0 w.heap.size none) (simpT sp lo tx) [.string (bs sp), .string (bs lo), .slice none 0 0, .slice (some ⟨g, 0, none⟩) 1 1, .string ⟨#[]⟩] :=
  node_trx (nm := [sp, lo]) (tx := []) (css := [[.string ⟨#[]⟩, .string ⟨#[]⟩, .slice none 0 0, .slice none 0 0, .string (bs tx)]]) hB hk (TrXL.one (text_trx w _ tx)) rfl (by decide)
theorem TrX.high {w w' : World} {L B0 B : Nat} {x : Tr} {cs : List Value} (h : TrX w (BtL L B0 B none) x cs) (hb : Below w.heap.size w w') (hB : B ≤ w.heap.size) : TrX w' (BtL L B0 w'.heap.size none) x cs :=
  TrX.imp (fun b hb' => hb'.imp id fun h => ⟨h.1, by have := h.2.1; have := hb.size; omega, h.2.2⟩) x cs (h.below hb)
theorem TrXL.high {w w' : World} {L B0 B : Nat} {x : List Tr} {cs : List (List Value)} (h : TrXL w (BtL L B0 B none) x cs) (hb : Below w.heap.size w w') (hB : B ≤ w.heap.size) : TrXL w' (BtL L B0 w'.heap.size none) x cs :=
  TrXL.imp (fun b hb' => hb'.imp id fun h => ⟨h.1, by have := h.2.1; have := hb.size; omega, h.2.2⟩) x cs (h.below hb)
theorem elem25_info : (Tryz.prog.info? 44).map (fun i => (i.zero, i.size, i.bytes)) = some (some (.agg #[.string ⟨#[]⟩, .string ⟨#[]⟩, .slice none 0 0, .slice none 0 0, .string ⟨#[]⟩]), 5, 96) := by kernel_rfl
end Go.Proofs.YthboiahdheehkaaGreatDoor
namespace Go.Proofs.YthboiahdheehkaaGreatDoor
set_option maxHeartbeats 8000000
set_option maxRecDepth 20000
open Go.RowKit Go.Extern.Stop Go.Stop Go.Extern
attribute [local go_sem] bs_toList bs_size
attribute [local irreducible] wpPhi wpPhiU
def TreeR (e : Env) (w : World) (en : Ending) (w' : World) : Prop :=
  ∃ g, en = .returned (.agg #[.string (bs soapL), .string (bs cEnvelope), .slice none 0 0, .slice (some ⟨g, 0, none⟩) 2 2, .string ⟨#[]⟩]) ∧ TrC w' (fun _ => True) e.tree [.string (bs soapL), .string (bs cEnvelope), .slice none 0 0, .slice (some ⟨g, 0, none⟩) 2 2, .string ⟨#[]⟩] ∧ Below w.heap.size w w'
theorem tree25_00 (act tt ii : List UInt8) (hds : List Tr) (bdy : Tr) (ph : Option Addr) (ch : Nat) (cssH : List (List Value)) (v0 v1 v2 v3 v4 : Value) (w : World) (hnv : v1 ≠ .string ⟨#[]⟩) (hl : hds.length ≤ 1000000) (hok : ∀ x ∈ hds, x.nm.length = 2) (hrd : Rd w ph cssH.flatten) (hH : TrXL w (fun b => b < w.heap.size) hds cssH) (hB : TrX w (fun b => b < w.heap.size) bdy [v0, v1, v2, v3, v4]) :
    Calls Tryz.prog 76 #[.agg #[.string (bs act), .string (bs tt), .string (bs ii), .string (bs []), .string (bs []), .slice ph hds.length ch, v0, v1, v2, v3, v4]] w (TreeR ⟨act, tt, ii, [], [], hds, bdy⟩ w) := by
  obtain ⟨i9, hi9, hy0, hy1, hy2⟩ := info_parts elem25_info
  have HNV := Lib.hid hnv; have HL := Lib.hid hl; have HOK := Lib.hid hok; have HRD := Lib.hid hrd; have HH := Lib.hid hH; have HB := Lib.hid hB
  have hba := below_alloc (below_alloc1 w (.cells #[.string (bs act), .string (bs tt), .string (bs ii), .string (bs []), .string (bs []), .slice ph hds.length ch, v0, v1, v2, v3, v4] 46)) (.cells #[.string ⟨#[]⟩, .string ⟨#[]⟩, .slice none 0 0, .slice none 0 0, .string ⟨#[]⟩] 44)
  have hn1 := (Blk.new w 46 #[.string (bs act), .string (bs tt), .string (bs ii), .string (bs []), .string (bs []), .slice ph hds.length ch, v0, v1, v2, v3, v4]).alloc (.cells #[.string ⟨#[]⟩, .string ⟨#[]⟩, .slice none 0 0, .slice none 0 0, .string ⟨#[]⟩] 44)
  have hn2 := Blk.new (w.alloc (.cells #[.string (bs act), .string (bs tt), .string (bs ii), .string (bs []), .string (bs []), .slice ph hds.length ch, v0, v1, v2, v3, v4] 46)) 44 #[.string ⟨#[]⟩, .string ⟨#[]⟩, .slice none 0 0, .slice none 0 0, .string ⟨#[]⟩]
  rw [World.size_alloc] at hn2
  have HBA := Lib.hid hba; have HN1 := Lib.hid hn1; have HN2 := Lib.hid hn2
  clear hnv hba hn1 hn2 hl hok hrd hH hB
  go_enter Tryz.func76, Tryz.ntmps76
  go_wp2_with fail
  generalize (w.alloc (.cells #[.string (bs act), .string (bs tt), .string (bs ii), .string (bs []), .string (bs []), .slice ph hds.length ch, v0, v1, v2, v3, v4] 46)).alloc (.cells #[.string ⟨#[]⟩, .string ⟨#[]⟩, .slice none 0 0, .slice none 0 0, .string ⟨#[]⟩] 44) = wa at *
  refine (soown_any cHeader wa).mono ?_
  rintro e w1 ⟨rfl, hb1⟩
  unfold snmV
  have hs1 := HN2.out.lt
  have hz1 := hb1.size
  have hal := below_alloc1 w1 (.cells #[.string (bs soapL), .string (bs cHeader), .slice none 0 0, .slice none 0 0, .string ⟨#[]⟩] 44)
  have HBW := Lib.hid (HBA.out.trans ((hb1.mono HBA.out.size).trans (hal.mono (by have := HBA.out.size; omega))))
  have G1 := Lib.hid ((HN1.out.below hb1 (by omega)).alloc (.cells #[.string (bs soapL), .string (bs cHeader), .slice none 0 0, .slice none 0 0, .string ⟨#[]⟩] 44))
  have G4 := Lib.hid ((HN2.out.below hb1 (by omega)).alloc (.cells #[.string (bs soapL), .string (bs cHeader), .slice none 0 0, .slice none 0 0, .string ⟨#[]⟩] 44))
  have G2 := Lib.hid (Blk.new w1 44 #[.string (bs soapL), .string (bs cHeader), .slice none 0 0, .slice none 0 0, .string ⟨#[]⟩])
  have HSZ := Lib.hid (show w.heap.size + 1 < w1.heap.size by omega)
  clear hb1 hs1 hz1 hal HN1 HN2 HBA
  go_wp2_with fail
  generalize hg3 : w1.heap.size = g3 at *
  have HS3 := Lib.hid (show g3 + 1 ≤ (w1.alloc (.cells #[.string (bs soapL), .string (bs cHeader), .slice none 0 0, .slice none 0 0, .string ⟨#[]⟩] 44)).heap.size by rw [World.size_alloc]; omega)
  generalize w1.alloc (.cells #[.string (bs soapL), .string (bs cHeader), .slice none 0 0, .slice none 0 0, .string ⟨#[]⟩] 44) = wr at *
  have G8 := HBW
  have hsz := HSZ.out; have hs3 := HS3.out
  refine wp_phiU_tail (List.take 16 _) (List.drop 16 _) (List.take_append_drop 16 _).symm (rT 15 (g3 + 1) 5 44 (.slice none 0 0) 0) (fun w' => Blk w' w.heap.size 46 #[.string (bs act), .string (bs tt), .string (bs ii), .string (bs []), .string (bs []), .slice ph hds.length ch, v0, v1, v2, v3, v4] ∧ Blk w' g3 44 #[.string (bs soapL), .string (bs cHeader), .slice none 0 0, .slice none 0 0, .string ⟨#[]⟩] ∧ Blk w' (w.heap.size + 1) 44 #[.string ⟨#[]⟩, .string ⟨#[]⟩, .slice none 0 0, .slice none 0 0, .string ⟨#[]⟩] ∧ Below w.heap.size w w' ∧ wr.heap.size ≤ w'.heap.size) [(2, PVal (.agg #[.string (bs addrL), .string (bs cAction)])), (5, PKidL (fun v => ∃ g, v = Value.agg #[.string (bs addrL), .string (bs cAction), .slice none 0 0, .slice (some ⟨g, 0, none⟩) 1 1, .string ⟨#[]⟩]) w.heap.size wr.heap.size (simpT addrL cAction act)), (6, PVal (.agg #[.string (bs addrL), .string (bs cTo)])), (9, PKidL (fun v => ∃ g, v = Value.agg #[.string (bs addrL), .string (bs cTo), .slice none 0 0, .slice (some ⟨g, 0, none⟩) 1 1, .string ⟨#[]⟩]) w.heap.size wr.heap.size (simpT addrL cTo tt)), (10, PVal (.agg #[.string (bs addrL), .string (bs cMessageID)])), (13, PKidL (fun v => ∃ g, v = Value.agg #[.string (bs addrL), .string (bs cMessageID), .slice none 0 0, .slice (some ⟨g, 0, none⟩) 1 1, .string ⟨#[]⟩]) w.heap.size wr.heap.size (simpT addrL cMessageID ii)), (14, PSl w.heap.size wr.heap.size 44 3 [simpT addrL cAction act, simpT addrL cTo tt, simpT addrL cMessageID ii]), (15, PRowG w.heap.size (g3 + 1) 5 44 3 ([] ++ [simpT addrL cAction act, simpT addrL cTo tt, simpT addrL cMessageID ii]))] [(14, [5, 9, 13]), (15, [2, 5, 6, 9, 10, 13, 14])] [] [] (by kernel_rfl) (by kernel_rfl) ?_ ?_ ?_ ?_ ?_ ?_
  · rintro p _ w1' w2' ⟨g1, g2, g4, g7, g8⟩ hR
    exact ⟨rT_blklo hR g1 (by omega), rT_blklo hR g2 (by omega), rT_blklo hR g4 (by omega), rT_below hR g7 (by omega) (by omega), Nat.le_trans g8 (rT_size hR)⟩
  · intro p hp p' hp' hne hks hns w1' w2' v hI hR hf
    have hv : ∀ g, (Value.slice none 0 0).ownBlock = some g → w.heap.size ≤ g ∧ g < wr.heap.size := fun g hg => by cases hg
    simp only [List.mem_cons, List.not_mem_nil, or_false] at hp hp'
    rcases hp with rfl | rfl | rfl | rfl | rfl | rfl | rfl | rfl
    · trivial
    · exact PKidL_stays hR hv hf
    · trivial
    · exact PKidL_stays hR hv hf
    · trivial
    · exact PKidL_stays hR hv hf
    · exact PSl_stays hR hv hf
    · rcases hp' with rfl | rfl | rfl | rfl | rfl | rfl | rfl | rfl
      · exact absurd (show (2 : Nat) ∈ needs [(14, [5, 9, 13]), (15, [2, 5, 6, 9, 10, 13, 14])] 15 by decide) hns
      · exact absurd (show (5 : Nat) ∈ needs [(14, [5, 9, 13]), (15, [2, 5, 6, 9, 10, 13, 14])] 15 by decide) hns
      · exact absurd (show (6 : Nat) ∈ needs [(14, [5, 9, 13]), (15, [2, 5, 6, 9, 10, 13, 14])] 15 by decide) hns
      · exact absurd (show (9 : Nat) ∈ needs [(14, [5, 9, 13]), (15, [2, 5, 6, 9, 10, 13, 14])] 15 by decide) hns
      · exact absurd (show (10 : Nat) ∈ needs [(14, [5, 9, 13]), (15, [2, 5, 6, 9, 10, 13, 14])] 15 by decide) hns
      · exact absurd (show (13 : Nat) ∈ needs [(14, [5, 9, 13]), (15, [2, 5, 6, 9, 10, 13, 14])] 15 by decide) hns
      · exact absurd (show (14 : Nat) ∈ needs [(14, [5, 9, 13]), (15, [2, 5, 6, 9, 10, 13, 14])] 15 by decide) hns
      · exact absurd rfl hne
  · intro p hp u hu hne w1' w2' hI hR hf
    cases hu
  · intro u hu
    cases hu
  · exact ⟨G1.out, G2.out, G4.out, G8.out.drew, Nat.le_refl _⟩
  simp only [List.take_succ_cons, List.take_zero, List.drop_succ_cons, List.drop_zero]
  clear G1 G2 G4 G8
  repeat (first | (refine phiU_skipK rfl (fun K hK => ?_); simp only [Act.put, List.setIfInBounds_toArray, List.set_cons_succ, List.set_cons_zero, List.cons_append, List.nil_append]; apply hK; clear hK K) | (refine phiU_pureK rfl rfl (fun K hK => ?_); apply Exists.intro; constructor; (focus (rintro w' ⟨g1, g2, g4, g7, g8⟩; have e0 := (g1.cell 0).trans rfl; have e1 := (g1.cell 1).trans rfl; have e2 := (g1.cell 2).trans rfl; have k3 := (g2.cell 3).trans rfl; clear g1 g2 g4 g7 g8; first | (go_simp; done) | (go_simp; (try go_bits); (try go_simp); rfl) | go_simp)); simp only [Act.put, List.setIfInBounds_toArray, List.set_cons_succ, List.set_cons_zero]; apply hK; clear hK K))
  refine phiU_partK (PVal (.agg #[.string (bs addrL), .string (bs cAction)])) rfl rfl ⟨_, rfl⟩ ?_ (fun K hK v hv => ?_)
  · rintro w' ⟨g1, g2, g4, g7, g8⟩ hf hu
    clear hf hu g1 g2 g4 g7 g8
    unfold gives
    go_simp
    refine (saddr_any cAction w').mono ?_
    rintro e w'' ⟨rfl, hb⟩
    exact ⟨_, rfl, rfl, trivial, by rw [rT_o (by decide)]; exact hb⟩
  obtain rfl : v = _ := hv
  simp only [Act.put, List.setIfInBounds_toArray, List.set_cons_succ, List.set_cons_zero, List.nil_append]
  apply hK
  clear hK K
  repeat (first | (refine phiU_skipK rfl (fun K hK => ?_); simp only [Act.put, List.setIfInBounds_toArray, List.set_cons_succ, List.set_cons_zero, List.cons_append, List.nil_append]; apply hK; clear hK K) | (refine phiU_pureK rfl rfl (fun K hK => ?_); apply Exists.intro; constructor; (focus (rintro w' ⟨g1, g2, g4, g7, g8⟩; have e0 := (g1.cell 0).trans rfl; have e1 := (g1.cell 1).trans rfl; have e2 := (g1.cell 2).trans rfl; have k3 := (g2.cell 3).trans rfl; clear g1 g2 g4 g7 g8; first | (go_simp; done) | (go_simp; (try go_bits); (try go_simp); rfl) | go_simp)); simp only [Act.put, List.setIfInBounds_toArray, List.set_cons_succ, List.set_cons_zero]; apply hK; clear hK K))
  refine phiU_partK (PKidL (fun v => ∃ g, v = Value.agg #[.string (bs addrL), .string (bs cAction), .slice none 0 0, .slice (some ⟨g, 0, none⟩) 1 1, .string ⟨#[]⟩]) w.heap.size wr.heap.size (simpT addrL cAction act)) rfl rfl ⟨_, 0, rfl⟩ ?_ (fun K hK v hv => ?_)
  · rintro w' ⟨g1, g2, g4, g7, g8⟩ hf hu
    have HG := Lib.hid g8
    clear hf hu g1 g2 g4 g7 g8
    unfold gives
    go_simp
    refine (simple_any addrL cAction act w').mono ?_
    rintro e w'' ⟨g, rfl, hg, hlt, hk, hb⟩
    exact ⟨_, rfl, ⟨g, rfl⟩, ⟨_, w''.heap.size, rfl, simp_trx (by have := HG.out; omega) hk, Nat.le_refl _⟩, by rw [rT_o (by decide)]; exact hb⟩
  obtain ⟨q5, rfl⟩ := hv
  simp only [Act.put, List.setIfInBounds_toArray, List.set_cons_succ, List.set_cons_zero, List.cons_append, List.nil_append]
  apply hK
  clear hK K
  repeat (first | (refine phiU_skipK rfl (fun K hK => ?_); simp only [Act.put, List.setIfInBounds_toArray, List.set_cons_succ, List.set_cons_zero, List.cons_append, List.nil_append]; apply hK; clear hK K) | (refine phiU_pureK rfl rfl (fun K hK => ?_); apply Exists.intro; constructor; (focus (rintro w' ⟨g1, g2, g4, g7, g8⟩; have e0 := (g1.cell 0).trans rfl; have e1 := (g1.cell 1).trans rfl; have e2 := (g1.cell 2).trans rfl; have k3 := (g2.cell 3).trans rfl; clear g1 g2 g4 g7 g8; first | (go_simp; done) | (go_simp; (try go_bits); (try go_simp); rfl) | go_simp)); simp only [Act.put, List.setIfInBounds_toArray, List.set_cons_succ, List.set_cons_zero, List.cons_append, List.nil_append]; apply hK; clear hK K))
  refine phiU_partK (PVal (.agg #[.string (bs addrL), .string (bs cTo)])) rfl rfl ⟨_, rfl⟩ ?_ (fun K hK v hv => ?_)
  · rintro w' ⟨g1, g2, g4, g7, g8⟩ hf hu
    clear hf hu g1 g2 g4 g7 g8
    unfold gives
    go_simp
    refine (saddr_any cTo w').mono ?_
    rintro e w'' ⟨rfl, hb⟩
    exact ⟨_, rfl, rfl, trivial, by rw [rT_o (by decide)]; exact hb⟩
  obtain rfl : v = _ := hv
  simp only [Act.put, List.setIfInBounds_toArray, List.set_cons_succ, List.set_cons_zero, List.cons_append, List.nil_append]
  apply hK
  clear hK K
  repeat (first | (refine phiU_skipK rfl (fun K hK => ?_); simp only [Act.put, List.setIfInBounds_toArray, List.set_cons_succ, List.set_cons_zero, List.cons_append, List.nil_append]; apply hK; clear hK K) | (refine phiU_pureK rfl rfl (fun K hK => ?_); apply Exists.intro; constructor; (focus (rintro w' ⟨g1, g2, g4, g7, g8⟩; have e0 := (g1.cell 0).trans rfl; have e1 := (g1.cell 1).trans rfl; have e2 := (g1.cell 2).trans rfl; have k3 := (g2.cell 3).trans rfl; clear g1 g2 g4 g7 g8; first | (go_simp; done) | (go_simp; (try go_bits); (try go_simp); rfl) | go_simp)); simp only [Act.put, List.setIfInBounds_toArray, List.set_cons_succ, List.set_cons_zero]; apply hK; clear hK K))
  refine phiU_partK (PKidL (fun v => ∃ g, v = Value.agg #[.string (bs addrL), .string (bs cTo), .slice none 0 0, .slice (some ⟨g, 0, none⟩) 1 1, .string ⟨#[]⟩]) w.heap.size wr.heap.size (simpT addrL cTo tt)) rfl rfl ⟨_, 0, rfl⟩ ?_ (fun K hK v hv => ?_)
  · rintro w' ⟨g1, g2, g4, g7, g8⟩ hf hu
    have HG := Lib.hid g8
    clear hf hu g1 g2 g4 g7 g8
    unfold gives
    go_simp
    refine (simple_any addrL cTo tt w').mono ?_
    rintro e w'' ⟨g, rfl, hg, hlt, hk, hb⟩
    exact ⟨_, rfl, ⟨g, rfl⟩, ⟨_, w''.heap.size, rfl, simp_trx (by have := HG.out; omega) hk, Nat.le_refl _⟩, by rw [rT_o (by decide)]; exact hb⟩
  obtain ⟨q9, rfl⟩ := hv
  simp only [Act.put, List.setIfInBounds_toArray, List.set_cons_succ, List.set_cons_zero, List.cons_append, List.nil_append]
  apply hK
  clear hK K
  repeat (first | (refine phiU_skipK rfl (fun K hK => ?_); simp only [Act.put, List.setIfInBounds_toArray, List.set_cons_succ, List.set_cons_zero, List.cons_append, List.nil_append]; apply hK; clear hK K) | (refine phiU_pureK rfl rfl (fun K hK => ?_); apply Exists.intro; constructor; (focus (rintro w' ⟨g1, g2, g4, g7, g8⟩; have e0 := (g1.cell 0).trans rfl; have e1 := (g1.cell 1).trans rfl; have e2 := (g1.cell 2).trans rfl; have k3 := (g2.cell 3).trans rfl; clear g1 g2 g4 g7 g8; first | (go_simp; done) | (go_simp; (try go_bits); (try go_simp); rfl) | go_simp)); simp only [Act.put, List.setIfInBounds_toArray, List.set_cons_succ, List.set_cons_zero, List.cons_append, List.nil_append]; apply hK; clear hK K))
  refine phiU_partK (PVal (.agg #[.string (bs addrL), .string (bs cMessageID)])) rfl rfl ⟨_, rfl⟩ ?_ (fun K hK v hv => ?_)
  · rintro w' ⟨g1, g2, g4, g7, g8⟩ hf hu
    clear hf hu g1 g2 g4 g7 g8
    unfold gives
    go_simp
    refine (saddr_any cMessageID w').mono ?_
    rintro e w'' ⟨rfl, hb⟩
    exact ⟨_, rfl, rfl, trivial, by rw [rT_o (by decide)]; exact hb⟩
  obtain rfl : v = _ := hv
  simp only [Act.put, List.setIfInBounds_toArray, List.set_cons_succ, List.set_cons_zero, List.cons_append, List.nil_append]
  apply hK
  clear hK K
  repeat (first | (refine phiU_skipK rfl (fun K hK => ?_); simp only [Act.put, List.setIfInBounds_toArray, List.set_cons_succ, List.set_cons_zero, List.cons_append, List.nil_append]; apply hK; clear hK K) | (refine phiU_pureK rfl rfl (fun K hK => ?_); apply Exists.intro; constructor; (focus (rintro w' ⟨g1, g2, g4, g7, g8⟩; have e0 := (g1.cell 0).trans rfl; have e1 := (g1.cell 1).trans rfl; have e2 := (g1.cell 2).trans rfl; have k3 := (g2.cell 3).trans rfl; clear g1 g2 g4 g7 g8; first | (go_simp; done) | (go_simp; (try go_bits); (try go_simp); rfl) | go_simp)); simp only [Act.put, List.setIfInBounds_toArray, List.set_cons_succ, List.set_cons_zero]; apply hK; clear hK K))
  refine phiU_partK (PKidL (fun v => ∃ g, v = Value.agg #[.string (bs addrL), .string (bs cMessageID), .slice none 0 0, .slice (some ⟨g, 0, none⟩) 1 1, .string ⟨#[]⟩]) w.heap.size wr.heap.size (simpT addrL cMessageID ii)) rfl rfl ⟨_, 0, rfl⟩ ?_ (fun K hK v hv => ?_)
  · rintro w' ⟨g1, g2, g4, g7, g8⟩ hf hu
    have HG := Lib.hid g8
    clear hf hu g1 g2 g4 g7 g8
    unfold gives
    go_simp
    refine (simple_any addrL cMessageID ii w').mono ?_
    rintro e w'' ⟨g, rfl, hg, hlt, hk, hb⟩
    exact ⟨_, rfl, ⟨g, rfl⟩, ⟨_, w''.heap.size, rfl, simp_trx (by have := HG.out; omega) hk, Nat.le_refl _⟩, by rw [rT_o (by decide)]; exact hb⟩
  obtain ⟨q13, rfl⟩ := hv
  simp only [Act.put, List.setIfInBounds_toArray, List.set_cons_succ, List.set_cons_zero, List.cons_append, List.nil_append]
  apply hK
  clear hK K
  repeat (first | (refine phiU_skipK rfl (fun K hK => ?_); simp only [Act.put, List.setIfInBounds_toArray, List.set_cons_succ, List.set_cons_zero, List.cons_append, List.nil_append]; apply hK; clear hK K) | (refine phiU_pureK rfl rfl (fun K hK => ?_); apply Exists.intro; constructor; (focus (rintro w' ⟨g1, g2, g4, g7, g8⟩; have e0 := (g1.cell 0).trans rfl; have e1 := (g1.cell 1).trans rfl; have e2 := (g1.cell 2).trans rfl; have k3 := (g2.cell 3).trans rfl; clear g1 g2 g4 g7 g8; first | (go_simp; done) | (go_simp; (try go_bits); (try go_simp); rfl) | go_simp)); simp only [Act.put, List.setIfInBounds_toArray, List.set_cons_succ, List.set_cons_zero, List.cons_append, List.nil_append]; apply hK; clear hK K))
  refine phiU_partK (PSl w.heap.size wr.heap.size 44 3 [simpT addrL cAction act, simpT addrL cTo tt, simpT addrL cMessageID ii]) rfl rfl ⟨_, 0, rfl⟩ ?_ (fun K hK v hv => ?_)
  · rintro w' ⟨g1, g2, g4, g7, g8⟩ hf hu
    have f5 := hf (5, fun w1 => (PKidL (fun v => ∃ g, v = Value.agg #[.string (bs addrL), .string (bs cAction), .slice none 0 0, .slice (some ⟨g, 0, none⟩) 1 1, .string ⟨#[]⟩]) w.heap.size wr.heap.size (simpT addrL cAction act)).fact w1 (.agg #[.string (bs addrL), .string (bs cAction), .slice none 0 0, .slice (some ⟨q5, 0, none⟩) 1 1, .string ⟨#[]⟩])) (by simp) (List.contains_iff_mem.1 rfl) rfl
    have f9 := hf (9, fun w1 => (PKidL (fun v => ∃ g, v = Value.agg #[.string (bs addrL), .string (bs cTo), .slice none 0 0, .slice (some ⟨g, 0, none⟩) 1 1, .string ⟨#[]⟩]) w.heap.size wr.heap.size (simpT addrL cTo tt)).fact w1 (.agg #[.string (bs addrL), .string (bs cTo), .slice none 0 0, .slice (some ⟨q9, 0, none⟩) 1 1, .string ⟨#[]⟩])) (by simp) (List.contains_iff_mem.1 rfl) rfl
    have f13 := hf (13, fun w1 => (PKidL (fun v => ∃ g, v = Value.agg #[.string (bs addrL), .string (bs cMessageID), .slice none 0 0, .slice (some ⟨g, 0, none⟩) 1 1, .string ⟨#[]⟩]) w.heap.size wr.heap.size (simpT addrL cMessageID ii)).fact w1 (.agg #[.string (bs addrL), .string (bs cMessageID), .slice none 0 0, .slice (some ⟨q13, 0, none⟩) 1 1, .string ⟨#[]⟩])) (by simp) (List.contains_iff_mem.1 rfl) rfl
    have F5 := Lib.hid f5
    have F9 := Lib.hid f9
    have F13 := Lib.hid f13
    have HG := Lib.hid g8
    clear hf hu f5 f9 f13 g1 g2 g4 g7 g8
    unfold gives
    go_simp
    refine ⟨⟨_, rfl⟩, fun g hg => ?_, by rw [rT_o (by decide)]; exact below_alloc1 _ _⟩
    obtain rfl : w'.heap.size = g := by simpa using hg
    obtain ⟨c5, B5, e5, t5, b5⟩ := F5.out
    injection e5 with e5
    have e5 := congrArg Array.toList e5
    dsimp only at e5
    subst e5
    obtain ⟨c9, B9, e9, t9, b9⟩ := F9.out
    injection e9 with e9
    have e9 := congrArg Array.toList e9
    dsimp only at e9
    subst e9
    obtain ⟨c13, B13, e13, t13, b13⟩ := F13.out
    injection e13 with e13
    have e13 := congrArg Array.toList e13
    dsimp only at e13
    subst e13
    refine ⟨HG.out, [[.string (bs addrL), .string (bs cAction), .slice none 0 0, .slice (some ⟨q5, 0, none⟩) 1 1, .string ⟨#[]⟩], [.string (bs addrL), .string (bs cTo), .slice none 0 0, .slice (some ⟨q9, 0, none⟩) 1 1, .string ⟨#[]⟩], [.string (bs addrL), .string (bs cMessageID), .slice none 0 0, .slice (some ⟨q13, 0, none⟩) 1 1, .string ⟨#[]⟩]], _, Blk.new _ _ _, ?_, Nat.le_refl _⟩
    exact ⟨_, _, rfl, t5.high (below_alloc1 _ _) b5, ⟨_, _, rfl, t9.high (below_alloc1 _ _) b9, ⟨_, _, rfl, t13.high (below_alloc1 _ _) b13, rfl⟩⟩⟩
  obtain ⟨y14, rfl⟩ := hv
  simp only [Act.put, List.setIfInBounds_toArray, List.set_cons_succ, List.set_cons_zero, List.cons_append, List.nil_append]
  apply hK
  clear hK K
  refine phiU_partK (PRowG w.heap.size (g3 + 1) 5 44 3 ([] ++ [simpT addrL cAction act, simpT addrL cTo tt, simpT addrL cMessageID ii])) rfl rfl ⟨_, none, 0, rfl⟩ ?_ (fun K hK v hv => ?_)
  · rintro w' ⟨g1, g2, g4, g7, g8⟩ hf hu
    have f4 := hf (14, fun w1 => (PSl w.heap.size wr.heap.size 44 3 [simpT addrL cAction act, simpT addrL cTo tt, simpT addrL cMessageID ii]).fact w1 (.slice (some ⟨y14, 0, none⟩) 3 3)) (by simp) (List.contains_iff_mem.1 rfl) rfl y14 rfl
    obtain ⟨h4b, css9, B, b4, t4, l4⟩ := f4
    have hu8 : w'.ownsRow (g3 + 1) 44 5 (.slice none 0 0) 0 [] := ⟨rfl, .inl ⟨rfl, rfl⟩⟩
    clear hf hu
    refine gives_appAt (.tmp 8) (.tmp 21) 39 rfl (g3 + 1) 44 i9 (.agg #[.string ⟨#[]⟩, .string ⟨#[]⟩, .slice none 0 0, .slice none 0 0, .string ⟨#[]⟩]) 5 96 Tryz.underlying39 hi9 hy0 hy1 hy2 rfl (by decide) _ _ _ rfl hu8 _ _ _ css9.flatten rfl (by rw [trxl_flen _ _ (k := 2) (by simp [simpT, Tr.nm]) t4]; rfl) (rd_blk b4) (trxl_ones _ _ t4) (by unfold maxLen; omega) (by omega) (by omega) ?_
    intro v2 w2 ho2 hg2 hat2
    obtain ⟨p2, c2, rfl, _, _, _⟩ := owns_rd ho2
    refine ⟨⟨p2, c2, rfl⟩, prow_stepG (css := []) hg2 hat2 (fun g hg => by cases hg) (B0 := wr.heap.size) (by omega) (by omega) (by omega) rfl t4 l4 (by rw [List.flatten_append]; exact ho2), ?_⟩
    rw [rT_at]
    exact ⟨⟨_, hu8⟩, hg2⟩
  obtain ⟨p15, c15, rfl⟩ := hv
  simp only [Act.put, List.setIfInBounds_toArray, List.set_cons_succ, List.set_cons_zero, List.cons_append, List.nil_append]
  apply hK
  clear hK K
  repeat (first | (refine phiU_skipK rfl (fun K hK => ?_); simp only [Act.put, List.setIfInBounds_toArray, List.set_cons_succ, List.set_cons_zero, List.cons_append, List.nil_append]; apply hK; clear hK K) | (refine phiU_pureK rfl rfl (fun K hK => ?_); apply Exists.intro; constructor; (focus (rintro w' ⟨g1, g2, g4, g7, g8⟩; have e0 := (g1.cell 0).trans rfl; have e1 := (g1.cell 1).trans rfl; have e2 := (g1.cell 2).trans rfl; have k3 := (g2.cell 3).trans rfl; clear g1 g2 g4 g7 g8; first | (go_simp; done) | (go_simp; (try go_bits); (try go_simp); rfl) | go_simp)); simp only [Act.put, List.setIfInBounds_toArray, List.set_cons_succ, List.set_cons_zero, List.cons_append, List.nil_append]; apply hK; clear hK K))
  refine phiU_done ?_
  rintro w9 ⟨g1, g2, g4, g7, g8⟩ hf
  obtain ⟨css9, ho9, hk9⟩ := hf (15, fun w1 => (PRowG w.heap.size (g3 + 1) 5 44 3 ([] ++ [simpT addrL cAction act, simpT addrL cTo tt, simpT addrL cMessageID ii])).fact w1 (.slice p15 3 c15)) (by simp) rfl
  have f3 := g2.frozen 3
  have k3 := (g2.cell 3).trans rfl
  have O9 := ((Only.refl g3 w9).set_ 3 (.slice p15 3 c15))
  have R1 := Lib.hid (O9.blk g1 (by omega))
  have R4 := Lib.hid (O9.blk g4 (by omega))
  have R2 := Lib.hid (show Blk (w9.setCell ⟨g3, 3, none⟩ (.slice p15 3 c15)) g3 44 #[.string (bs soapL), .string (bs cHeader), .slice none 0 0, .slice p15 3 c15, .string ⟨#[]⟩] from g2.set_ 3 _)
  have R8 := Lib.hid (g7.setCell (p := ⟨g3, 3, none⟩) (show w.heap.size ≤ g3 by omega) (.slice p15 3 c15))
  have R6 := Lib.hid (O9.owns2 ho9 (by omega))
  have R7 := Lib.hid (hk9.only O9 (fun b hb => by rcases hb with hb | hb; omega; (have := hb.1; omega)))
  rw [show w9.heap.size = (w9.setCell ⟨g3, 3, none⟩ (.slice p15 3 c15)).heap.size from O9.size.symm] at R7
  have HO9S := Lib.hid O9.size
  have S9 := Lib.hid (show wr.heap.size ≤ (w9.setCell ⟨g3, 3, none⟩ (.slice p15 3 c15)).heap.size by rw [O9.size]; exact g8)
  have e3 := (R1.out.cell 3).trans rfl
  have e4 := (R1.out.cell 4).trans rfl
  have e5 := (R1.out.cell 5).trans rfl
  clear hf g1 g2 g4 g7 g8 O9 ho9 hk9
  have hs9 := S9.out
  have HRW := Lib.hid (HRD.out.keep (Below.keeps R8.out))
  have HHW := Lib.hid (TrXL.keepP (fun a v _ hv => Below.keeps R8.out a v hv) _ _ HH.out)
  have HFL := Lib.hid (show cssH.flatten.length = hds.length * 5 from trxl_flen _ _ HOK.out HH.out)
  have HON := Lib.hid (trxl_ones _ _ HH.out)
  have HVL := Lib.hid (show ∀ g, (Value.slice p15 3 c15).ownBlock = some g → w.heap.size ≤ g ∧ g < (w9.setCell ⟨g3, 3, none⟩ (.slice p15 3 c15)).heap.size from fun g hg => ⟨by have := (R6.out.lt g hg).1; omega, (R6.out.lt g hg).2⟩)
  have hlm := HL.out
  go_wp2_with (at_builtin; refine wpList_appAt (.tmp 52) (.tmp 54) 39 rfl rfl (g3 + 1) 44 i9 (.agg #[.string ⟨#[]⟩, .string ⟨#[]⟩, .slice none 0 0, .slice none 0 0, .string ⟨#[]⟩]) 5 96 Tryz.underlying39 hi9 hy0 hy1 hy2 rfl (by decide) _ _ _ rfl R6.out _ _ _ cssH.flatten rfl HFL.out HRW.out HON.out (by unfold maxLen; omega) (by omega) (by omega) ?_)
  intro v7 w7 ho7 hg7 hat7
  rw [← HO9S.out] at hat7
  clear f3 k3 e3 e4 e5
  generalize (w9.setCell ⟨g3, 3, none⟩ (.slice p15 3 c15)) = wS at *
  have hR7 : rT 0 (g3 + 1) 5 44 (.slice p15 3 c15) 3 0 wS w7 := by rw [rT_at]; exact ⟨⟨_, R6.out⟩, hg7⟩
  obtain ⟨cssA, hoA, hkA⟩ : (PRowG w.heap.size (g3 + 1) 5 44 (3 + hds.length) (([] ++ [simpT addrL cAction act, simpT addrL cTo tt, simpT addrL cMessageID ii]) ++ hds)).fact w7 v7 := prow_stepG (css := css9) (dss := cssH) (B := wS.heap.size) hg7 hat7 HVL.out (B0 := wS.heap.size) (by omega) (Nat.le_refl _) (by omega) R7.out (TrXL.imp (fun b hb => .inl hb) _ _ HHW.out) (Nat.le_refl _) (by rw [List.flatten_append]; exact ho7)
  obtain ⟨pN, cN, rfl, _, _, _⟩ := owns_rd hoA
  have g1 := rT_blklo hR7 R1.out (by omega)
  have g2 := rT_blklo hR7 R2.out (by omega)
  have g4 := rT_blklo hR7 R4.out (by omega)
  have g7 := rT_below hR7 R8.out (by omega) (by omega)
  have g8 := rT_size hR7
  have f3 := g2.frozen 3
  have k3 := (g2.cell 3).trans rfl
  have O9 := ((Only.refl g3 w7).set_ 3 (.slice pN (3 + hds.length) cN))
  have W1 := Lib.hid (O9.blk g1 (by omega))
  have W4 := Lib.hid (O9.blk g4 (by omega))
  have W2 := Lib.hid (show Blk (w7.setCell ⟨g3, 3, none⟩ (.slice pN (3 + hds.length) cN)) g3 44 #[.string (bs soapL), .string (bs cHeader), .slice none 0 0, .slice pN (3 + hds.length) cN, .string ⟨#[]⟩] from g2.set_ 3 _)
  have W8 := Lib.hid (g7.setCell (p := ⟨g3, 3, none⟩) (show w.heap.size ≤ g3 by omega) (.slice pN (3 + hds.length) cN))
  have WT := Lib.hid (hdr_trx (nm := [soapL, cHeader]) hoA hkA (by (simp only [List.length_append, List.length_cons, List.length_nil]) <;> omega) (by omega) O9)
  have WZ := Lib.hid (show g3 < (w7.setCell ⟨g3, 3, none⟩ (.slice pN (3 + hds.length) cN)).heap.size from W2.out.lt)
  clear ho7 hg7 hat7 hR7 hoA hkA g1 g2 g4 g7 g8 O9 R1 R2 R4 R6 R7 R8 HO9S HRW HHW HFL HON HVL HH HRD HOK hs9 S9 hi9 hy0 hy1 hy2 hlm HL
  go_wp2_with fail
  clear f3 k3
  generalize w7.setCell ⟨g3, 3, none⟩ (.slice pN (3 + hds.length) cN) = wA at *
  refine wp_phi_tail (List.take 6 _) (List.drop 6 _) (List.take_append_drop 6 _).symm (fun w' => (Blk w' w.heap.size 46 #[.string (bs act), .string (bs tt), .string (bs ii), .string (bs []), .string (bs []), .slice ph hds.length ch, v0, v1, v2, v3, v4]) ∧ Below wA.heap.size wA w') [(0, PVal (.agg #[.string (bs soapL), .string (bs cBody)])), (3, PBlk wA.heap.size 44 #[v0, v1, v2, v3, v4] 1), (5, PNew (wA.heap.size) 44 #[.string ⟨#[]⟩, .string ⟨#[]⟩, .slice none 0 0, .slice none 0 0, .string ⟨#[]⟩])] [] (by kernel_rfl) (by kernel_rfl) ?_ ?_ ⟨W1.out, ((Below.refl _ wA)).drew⟩ ?_
  · rintro w1' w2' ⟨f1, hIB⟩ hb
    exact ⟨(by first | exact f1.below hb | exact f1.keep (Below.keeps hb) | exact Below.keeps hb _ _ f1 | exact Blk.below f1 hb (Blk.lt f1)), hIB.trans (hb.mono hIB.size)⟩
  · simp only [List.mem_cons, List.not_mem_nil, or_false, forall_eq_or_imp, forall_eq]
    exact ⟨fun _ _ _ _ h' h => PVal_stays _ _ _ _ h' h, fun _ _ _ _ h' h => PBlk_stays h' h, fun _ _ _ _ h' h => PNew_stays h' h⟩
  simp only [List.take_succ_cons, List.take_zero, List.drop_succ_cons, List.drop_zero]
  repeat (first | (refine phi_skipK rfl (fun K hK => ?_); simp only [Act.put, List.setIfInBounds_toArray, List.set_cons_succ, List.set_cons_zero, List.cons_append, List.nil_append]; apply hK; clear hK K) | (refine phi_pureK rfl rfl (fun K hK => ?_); apply Exists.intro; constructor; (focus (rintro w' ⟨f1, hIB⟩; have q6 := (f1.cell 6).trans rfl; have q7 := (f1.cell 7).trans rfl; have q8 := (f1.cell 8).trans rfl; have q9 := (f1.cell 9).trans rfl; have q10 := (f1.cell 10).trans rfl; clear f1 hIB; first | (go_simp; done) | (go_simp; (try go_bits); (try go_simp); rfl) | go_simp)); simp only [Act.put, List.setIfInBounds_toArray, List.set_cons_succ, List.set_cons_zero, List.cons_append, List.nil_append]; apply hK; clear hK K))
  refine phi_partK (PVal (.agg #[.string (bs soapL), .string (bs cBody)])) rfl rfl ⟨_, rfl⟩ ?_ (fun K hK v hv => ?_)
  · rintro w' ⟨f1, hIB⟩ hf
    unfold gives
    clear hf
    go_simp
    refine (soown_any cBody _).mono ?_
    rintro e w'' ⟨rfl, hb⟩
    exact ⟨_, rfl, rfl, trivial, hb⟩
  obtain rfl : v = _ := hv
  simp only [Act.put, List.setIfInBounds_toArray, List.set_cons_succ, List.set_cons_zero, List.nil_append]
  apply hK
  clear hK K
  repeat (first | (refine phi_skipK rfl (fun K hK => ?_); simp only [Act.put, List.setIfInBounds_toArray, List.set_cons_succ, List.set_cons_zero, List.cons_append, List.nil_append]; apply hK; clear hK K) | (refine phi_pureK rfl rfl (fun K hK => ?_); apply Exists.intro; constructor; (focus (rintro w' ⟨f1, hIB⟩; have q6 := (f1.cell 6).trans rfl; have q7 := (f1.cell 7).trans rfl; have q8 := (f1.cell 8).trans rfl; have q9 := (f1.cell 9).trans rfl; have q10 := (f1.cell 10).trans rfl; clear f1 hIB; first | (go_simp; done) | (go_simp; (try go_bits); (try go_simp); rfl) | go_simp)); simp only [Act.put, List.setIfInBounds_toArray, List.set_cons_succ, List.set_cons_zero]; apply hK; clear hK K))
  refine phi_partK (PBlk wA.heap.size 44 #[v0, v1, v2, v3, v4] 1) rfl rfl ⟨_, 0, rfl⟩ ?_ (fun K hK v hv => ?_)
  · rintro w' ⟨f1, hIB⟩ hf
    have HGS := Lib.hid hIB.size
    clear hf f1 hIB
    unfold gives
    go_simp
    refine ⟨⟨_, rfl⟩, fun g hg => ?_, below_alloc1 _ _⟩
    obtain rfl : w'.heap.size = g := by simpa using hg
    exact ⟨HGS.out, Blk.new _ _ _⟩
  obtain ⟨g_3, rfl⟩ := hv
  simp only [Act.put, List.setIfInBounds_toArray, List.set_cons_succ, List.set_cons_zero, List.cons_append, List.nil_append]
  apply hK
  clear hK K
  repeat (first | (refine phi_skipK rfl (fun K hK => ?_); simp only [Act.put, List.setIfInBounds_toArray, List.set_cons_succ, List.set_cons_zero, List.cons_append, List.nil_append]; apply hK; clear hK K) | (refine phi_pureK rfl rfl (fun K hK => ?_); apply Exists.intro; constructor; (focus (rintro w' ⟨f1, hIB⟩; have q6 := (f1.cell 6).trans rfl; have q7 := (f1.cell 7).trans rfl; have q8 := (f1.cell 8).trans rfl; have q9 := (f1.cell 9).trans rfl; have q10 := (f1.cell 10).trans rfl; clear f1 hIB; first | (go_simp; done) | (go_simp; (try go_bits); (try go_simp); rfl) | go_simp)); simp only [Act.put, List.setIfInBounds_toArray, List.set_cons_succ, List.set_cons_zero]; apply hK; clear hK K))
  refine phi_partK (PNew (wA.heap.size) 44 #[.string ⟨#[]⟩, .string ⟨#[]⟩, .slice none 0 0, .slice none 0 0, .string ⟨#[]⟩]) rfl rfl ⟨_, 0, rfl⟩ ?_ (fun K hK v hv => ?_)
  · rintro w' ⟨f1, hIB⟩ hf
    have HGS := Lib.hid hIB.size
    clear hf f1 hIB
    unfold gives
    go_simp
    refine ⟨⟨_, rfl⟩, fun g hg => ?_, below_alloc1 _ _⟩
    obtain rfl : w'.heap.size = g := by simpa using hg
    exact ⟨HGS.out, Blk.new _ _ _⟩
  obtain ⟨g_5, rfl⟩ := hv
  simp only [Act.put, List.setIfInBounds_toArray, List.set_cons_succ, List.set_cons_zero, List.cons_append, List.nil_append]
  apply hK
  clear hK K
  repeat (first | (refine phi_skipK rfl (fun K hK => ?_); simp only [Act.put, List.setIfInBounds_toArray, List.set_cons_succ, List.set_cons_zero, List.cons_append, List.nil_append]; apply hK; clear hK K) | (refine phi_pureK rfl rfl (fun K hK => ?_); apply Exists.intro; constructor; (focus (rintro w' ⟨f1, hIB⟩; have q6 := (f1.cell 6).trans rfl; have q7 := (f1.cell 7).trans rfl; have q8 := (f1.cell 8).trans rfl; have q9 := (f1.cell 9).trans rfl; have q10 := (f1.cell 10).trans rfl; clear f1 hIB; first | (go_simp; done) | (go_simp; (try go_bits); (try go_simp); rfl) | go_simp)); simp only [Act.put, List.setIfInBounds_toArray, List.set_cons_succ, List.set_cons_zero, List.cons_append, List.nil_append]; apply hK; clear hK K))
  refine phi_done ?_
  rintro w5 ⟨f1, hb5⟩ hk9
  have hb_3 := hk9 (3, fun w1 => (PBlk wA.heap.size 44 #[v0, v1, v2, v3, v4] 1).fact w1 (.slice (some ⟨g_3, 0, none⟩) 1 1)) (by simp) g_3 rfl
  have hb_5 := hk9 (5, fun w1 => (PNew (wA.heap.size) 44 #[.string ⟨#[]⟩, .string ⟨#[]⟩, .slice none 0 0, .slice none 0 0, .string ⟨#[]⟩]).fact w1 (.pointer (some ⟨g_5, 0, none⟩))) (by simp) g_5 rfl
  clear hk9
  obtain ⟨hg6, hk6⟩ := hb_3
  obtain ⟨hg5, hk5⟩ := hb_5
  have hz5 := hb5.size
  have hz3 := WZ.out
  have hne : g_3 ≠ g_5 := fun e => by
    unfold Blk at hk6 hk5
    rw [e, hk5] at hk6
    simp at hk6
    exact HNV.out hk6.2.1.symm
  generalize g_3 = gK at *
  generalize g_5 = gB at *
  refine wpList_store (.tmp 4) (.tmp 61) 44 rfl rfl gB 0 _ _ #[.string (bs soapL), .string (bs cBody), .slice none 0 0, .slice (some ⟨gK, 0, none⟩) 1 1, .string ⟨#[]⟩] rfl rfl hk5 (by kernel_rfl) (by simp [Value.oneCell']) (by simp) ?_
  intro w6 hb6 ho6
  rw [putCells_all #[.string ⟨#[]⟩, .string ⟨#[]⟩, .slice none 0 0, .slice none 0 0, .string ⟨#[]⟩] #[.string (bs soapL), .string (bs cBody), .slice none 0 0, .slice (some ⟨gK, 0, none⟩) 1 1, .string ⟨#[]⟩] rfl] at hb6
  have X2 := Lib.hid (ho6.blk (W2.out.below hb5 (by omega)) (by omega))
  have X4 := Lib.hid (ho6.blk (W4.out.below hb5 (by omega)) (by omega))
  have X3 := Lib.hid (ho6.blk hk6 hne)
  have X5 := Lib.hid hb6
  have XT := Lib.hid (TrX.only (TrX.below WT.out hb5) ho6 (fun b hb => by rcases hb with hb | hb; omega; (have := hb.2.1; omega)))
  have X8 := Lib.hid (W8.out.trans ((hb5.mono (by omega)).trans (ho6.below (by omega))))
  have XZ := Lib.hid (show g3 < w6.heap.size ∧ gB < w6.heap.size ∧ gB ≠ w.heap.size + 1 ∧ gK ≠ w.heap.size + 1 from by have := ho6.size; have := hk5.lt; omega)
  clear f1 hb5 hg5 hk5 hg6 hk6 hz5 hz3 hne hb6 ho6 W1 W2 W4 W8 WT WZ
  go_wp2_with fail
  refine wp_phi_tail (List.take 5 _) (List.drop 5 _) (List.take_append_drop 5 _).symm (fun w' => (Blk w' g3 44 #[.string (bs soapL), .string (bs cHeader), .slice none 0 0, .slice pN (3 + hds.length) cN, .string ⟨#[]⟩]) ∧ (Blk w' gB 44 #[.string (bs soapL), .string (bs cBody), .slice none 0 0, .slice (some ⟨gK, 0, none⟩) 1 1, .string ⟨#[]⟩]) ∧ Below w6.heap.size w6 w') [(0, PVal (.agg #[.string (bs soapL), .string (bs cEnvelope)])), (3, PBlk w6.heap.size 44 #[.string (bs soapL), .string (bs cHeader), .slice none 0 0, .slice pN (3 + hds.length) cN, .string ⟨#[]⟩, .string (bs soapL), .string (bs cBody), .slice none 0 0, .slice (some ⟨gK, 0, none⟩) 1 1, .string ⟨#[]⟩] 2)] [] (by kernel_rfl) (by kernel_rfl) ?_ ?_ ⟨X2.out, X5.out, ((Below.refl _ w6)).drew⟩ ?_
  · rintro w1' w2' ⟨f1, f2, hIB⟩ hb
    exact ⟨(by first | exact f1.below hb | exact f1.keep (Below.keeps hb) | exact Below.keeps hb _ _ f1 | exact Blk.below f1 hb (Blk.lt f1)), (by first | exact f2.below hb | exact f2.keep (Below.keeps hb) | exact Below.keeps hb _ _ f2 | exact Blk.below f2 hb (Blk.lt f2)), hIB.trans (hb.mono hIB.size)⟩
  · simp only [List.mem_cons, List.not_mem_nil, or_false, forall_eq_or_imp, forall_eq]
    exact ⟨fun _ _ _ _ h' h => PVal_stays _ _ _ _ h' h, fun _ _ _ _ h' h => PBlk_stays h' h⟩
  simp only [List.take_succ_cons, List.take_zero, List.drop_succ_cons, List.drop_zero]
  repeat (first | (refine phi_skipK rfl (fun K hK => ?_); simp only [Act.put, List.setIfInBounds_toArray, List.set_cons_succ, List.set_cons_zero, List.cons_append, List.nil_append]; apply hK; clear hK K) | (refine phi_pureK rfl rfl (fun K hK => ?_); apply Exists.intro; constructor; (focus (rintro w' ⟨f1, f2, hIB⟩; have q0 := (f1.cell 0).trans rfl; have q1 := (f1.cell 1).trans rfl; have q2 := (f1.cell 2).trans rfl; have q3 := (f1.cell 3).trans rfl; have q4 := (f1.cell 4).trans rfl; have s0 := (f2.cell 0).trans rfl; have s1 := (f2.cell 1).trans rfl; have s2 := (f2.cell 2).trans rfl; have s3 := (f2.cell 3).trans rfl; have s4 := (f2.cell 4).trans rfl; clear f1 f2 hIB; first | (go_simp; done) | (go_simp; (try go_bits); (try go_simp); rfl) | go_simp)); simp only [Act.put, List.setIfInBounds_toArray, List.set_cons_succ, List.set_cons_zero, List.cons_append, List.nil_append]; apply hK; clear hK K))
  refine phi_partK (PVal (.agg #[.string (bs soapL), .string (bs cEnvelope)])) rfl rfl ⟨_, rfl⟩ ?_ (fun K hK v hv => ?_)
  · rintro w' ⟨f1, f2, hIB⟩ hf
    unfold gives
    clear hf
    go_simp
    refine (soown_any cEnvelope _).mono ?_
    rintro e w'' ⟨rfl, hb⟩
    exact ⟨_, rfl, rfl, trivial, hb⟩
  obtain rfl : v = _ := hv
  simp only [Act.put, List.setIfInBounds_toArray, List.set_cons_succ, List.set_cons_zero, List.nil_append]
  apply hK
  clear hK K
  repeat (first | (refine phi_skipK rfl (fun K hK => ?_); simp only [Act.put, List.setIfInBounds_toArray, List.set_cons_succ, List.set_cons_zero, List.cons_append, List.nil_append]; apply hK; clear hK K) | (refine phi_pureK rfl rfl (fun K hK => ?_); apply Exists.intro; constructor; (focus (rintro w' ⟨f1, f2, hIB⟩; have q0 := (f1.cell 0).trans rfl; have q1 := (f1.cell 1).trans rfl; have q2 := (f1.cell 2).trans rfl; have q3 := (f1.cell 3).trans rfl; have q4 := (f1.cell 4).trans rfl; have s0 := (f2.cell 0).trans rfl; have s1 := (f2.cell 1).trans rfl; have s2 := (f2.cell 2).trans rfl; have s3 := (f2.cell 3).trans rfl; have s4 := (f2.cell 4).trans rfl; clear f1 f2 hIB; first | (go_simp; done) | (go_simp; (try go_bits); (try go_simp); rfl) | go_simp)); simp only [Act.put, List.setIfInBounds_toArray, List.set_cons_succ, List.set_cons_zero]; apply hK; clear hK K))
  refine phi_partK (PBlk w6.heap.size 44 #[.string (bs soapL), .string (bs cHeader), .slice none 0 0, .slice pN (3 + hds.length) cN, .string ⟨#[]⟩, .string (bs soapL), .string (bs cBody), .slice none 0 0, .slice (some ⟨gK, 0, none⟩) 1 1, .string ⟨#[]⟩] 2) rfl rfl ⟨_, 0, rfl⟩ ?_ (fun K hK v hv => ?_)
  · rintro w' ⟨f1, f2, hIB⟩ hf
    have HGS := Lib.hid hIB.size
    clear hf f1 f2 hIB
    unfold gives
    go_simp
    refine ⟨⟨_, rfl⟩, fun g hg => ?_, below_alloc1 _ _⟩
    obtain rfl : w'.heap.size = g := by simpa using hg
    exact ⟨HGS.out, Blk.new _ _ _⟩
  obtain ⟨g_3, rfl⟩ := hv
  simp only [Act.put, List.setIfInBounds_toArray, List.set_cons_succ, List.set_cons_zero, List.cons_append, List.nil_append]
  apply hK
  clear hK K
  repeat (first | (refine phi_skipK rfl (fun K hK => ?_); simp only [Act.put, List.setIfInBounds_toArray, List.set_cons_succ, List.set_cons_zero, List.cons_append, List.nil_append]; apply hK; clear hK K) | (refine phi_pureK rfl rfl (fun K hK => ?_); apply Exists.intro; constructor; (focus (rintro w' ⟨f1, f2, hIB⟩; have q0 := (f1.cell 0).trans rfl; have q1 := (f1.cell 1).trans rfl; have q2 := (f1.cell 2).trans rfl; have q3 := (f1.cell 3).trans rfl; have q4 := (f1.cell 4).trans rfl; have s0 := (f2.cell 0).trans rfl; have s1 := (f2.cell 1).trans rfl; have s2 := (f2.cell 2).trans rfl; have s3 := (f2.cell 3).trans rfl; have s4 := (f2.cell 4).trans rfl; clear f1 f2 hIB; first | (go_simp; done) | (go_simp; (try go_bits); (try go_simp); rfl) | go_simp)); simp only [Act.put, List.setIfInBounds_toArray, List.set_cons_succ, List.set_cons_zero]; apply hK; clear hK K))
  refine phi_done ?_
  rintro wB ⟨f1, f2, hbB⟩ hk9
  have hb_3 := hk9 (3, fun w1 => (PBlk w6.heap.size 44 #[.string (bs soapL), .string (bs cHeader), .slice none 0 0, .slice pN (3 + hds.length) cN, .string ⟨#[]⟩, .string (bs soapL), .string (bs cBody), .slice none 0 0, .slice (some ⟨gK, 0, none⟩) 1 1, .string ⟨#[]⟩] 2).fact w1 (.slice (some ⟨g_3, 0, none⟩) 2 2)) (by simp) g_3 rfl
  clear hk9
  obtain ⟨hgT, hkT⟩ := hb_3
  generalize g_3 = gT at *
  have XB := X4.out.below hbB (by have := XZ.out; omega)
  refine wpList_store (.tmp 2) (.tmp 66) 44 rfl rfl (w.heap.size + 1) 0 _ _ #[.string (bs soapL), .string (bs cEnvelope), .slice none 0 0, .slice (some ⟨gT, 0, none⟩) 2 2, .string ⟨#[]⟩] rfl rfl XB (by kernel_rfl) (by simp [Value.oneCell']) (by simp) ?_
  intro w8 hb8 ho8
  rw [putCells_all #[.string ⟨#[]⟩, .string ⟨#[]⟩, .slice none 0 0, .slice none 0 0, .string ⟨#[]⟩] #[.string (bs soapL), .string (bs cEnvelope), .slice none 0 0, .slice (some ⟨gT, 0, none⟩) 2 2, .string ⟨#[]⟩] rfl] at hb8
  have hxz := XZ.out
  have hzB := hbB.size
  have HEAD := Lib.hid (TrX.imp (fun _ _ => trivial) _ _ (TrX.only (TrX.below XT.out hbB) ho8 (fun b hb => by rcases hb with hb | hb; omega; (have := hb.1; omega))) : TrX w8 (fun _ => True) _ _)
  have BROW := Lib.hid (ho8.blk (X3.out.below hbB X3.out.lt) (by omega))
  have TROW := Lib.hid (ho8.blk hkT (by omega))
  have BEL := Lib.hid (X8.out.trans ((hbB.mono (by have := X8.out.size; omega)).trans (ho8.below (by omega))))
  have BDY := Lib.hid (TrX.imp (fun _ _ => trivial) _ _ (TrX.keepP (fun a v _ hv => Below.keeps BEL.out a v hv) _ _ HB.out) : TrX w8 (fun _ => True) bdy [v0, v1, v2, v3, v4])
  have z0 := (hb8.cell 0).trans rfl; have z1 := (hb8.cell 1).trans rfl; have z2 := (hb8.cell 2).trans rfl; have z3 := (hb8.cell 3).trans rfl; have z4 := (hb8.cell 4).trans rfl
  clear hb8 ho8 hxz hzB XB hkT hgT f1 f2 hbB X2 X3 X4 X5 X8 XT XZ HB
  go_wp2_with fail
  refine bodyPost_ret (v := .agg #[.string (bs soapL), .string (bs cEnvelope), .slice none 0 0, .slice (some ⟨gT, 0, none⟩) 2 2, .string ⟨#[]⟩]) (by simp [results, Tryz.results76, go_sem, z0, z1, z2, z3, z4]) rfl ?_
  refine ⟨gT, rfl, TrX.plain (P := fun _ => True) _ _ ?_, BEL.out⟩
  exact node_trxP (P := fun _ => True) (nm := [soapL, cEnvelope]) (tx := []) (css := [_, _]) trivial TROW.out ⟨_, _, rfl, HEAD.out, _, _, rfl, node_trxP (P := fun _ => True) (nm := [soapL, cBody]) (tx := []) (css := [[v0, v1, v2, v3, v4]]) (n := 1) trivial BROW.out (TrXL.one BDY.out) rfl (by decide), rfl⟩ rfl (by decide)
theorem tree25_01 (act tt ii : List UInt8) (r0 : UInt8) (rl : List UInt8) (hds : List Tr) (bdy : Tr) (ph : Option Addr) (ch : Nat) (cssH : List (List Value)) (v0 v1 v2 v3 v4 : Value) (w : World) (hnv : v1 ≠ .string ⟨#[]⟩) (hl : hds.length ≤ 1000000) (hok : ∀ x ∈ hds, x.nm.length = 2) (hrd : Rd w ph cssH.flatten) (hH : TrXL w (fun b => b < w.heap.size) hds cssH) (hB : TrX w (fun b => b < w.heap.size) bdy [v0, v1, v2, v3, v4]) :
    Calls Tryz.prog 76 #[.agg #[.string (bs act), .string (bs tt), .string (bs ii), .string (bs []), .string (bs (r0 :: rl)), .slice ph hds.length ch, v0, v1, v2, v3, v4]] w (TreeR ⟨act, tt, ii, [], (r0 :: rl), hds, bdy⟩ w) := by
  obtain ⟨i9, hi9, hy0, hy1, hy2⟩ := info_parts elem25_info
  have HNV := Lib.hid hnv; have HL := Lib.hid hl; have HOK := Lib.hid hok; have HRD := Lib.hid hrd; have HH := Lib.hid hH; have HB := Lib.hid hB
  have hba := below_alloc (below_alloc1 w (.cells #[.string (bs act), .string (bs tt), .string (bs ii), .string (bs []), .string (bs (r0 :: rl)), .slice ph hds.length ch, v0, v1, v2, v3, v4] 46)) (.cells #[.string ⟨#[]⟩, .string ⟨#[]⟩, .slice none 0 0, .slice none 0 0, .string ⟨#[]⟩] 44)
  have hn1 := (Blk.new w 46 #[.string (bs act), .string (bs tt), .string (bs ii), .string (bs []), .string (bs (r0 :: rl)), .slice ph hds.length ch, v0, v1, v2, v3, v4]).alloc (.cells #[.string ⟨#[]⟩, .string ⟨#[]⟩, .slice none 0 0, .slice none 0 0, .string ⟨#[]⟩] 44)
  have hn2 := Blk.new (w.alloc (.cells #[.string (bs act), .string (bs tt), .string (bs ii), .string (bs []), .string (bs (r0 :: rl)), .slice ph hds.length ch, v0, v1, v2, v3, v4] 46)) 44 #[.string ⟨#[]⟩, .string ⟨#[]⟩, .slice none 0 0, .slice none 0 0, .string ⟨#[]⟩]
  rw [World.size_alloc] at hn2
  have HBA := Lib.hid hba; have HN1 := Lib.hid hn1; have HN2 := Lib.hid hn2
  clear hnv hba hn1 hn2 hl hok hrd hH hB
  go_enter Tryz.func76, Tryz.ntmps76
  go_wp2_with fail
  generalize (w.alloc (.cells #[.string (bs act), .string (bs tt), .string (bs ii), .string (bs []), .string (bs (r0 :: rl)), .slice ph hds.length ch, v0, v1, v2, v3, v4] 46)).alloc (.cells #[.string ⟨#[]⟩, .string ⟨#[]⟩, .slice none 0 0, .slice none 0 0, .string ⟨#[]⟩] 44) = wa at *
  refine (soown_any cHeader wa).mono ?_
  rintro e w1 ⟨rfl, hb1⟩
  unfold snmV
  have hs1 := HN2.out.lt
  have hz1 := hb1.size
  have hal := below_alloc1 w1 (.cells #[.string (bs soapL), .string (bs cHeader), .slice none 0 0, .slice none 0 0, .string ⟨#[]⟩] 44)
  have HBW := Lib.hid (HBA.out.trans ((hb1.mono HBA.out.size).trans (hal.mono (by have := HBA.out.size; omega))))
  have G1 := Lib.hid ((HN1.out.below hb1 (by omega)).alloc (.cells #[.string (bs soapL), .string (bs cHeader), .slice none 0 0, .slice none 0 0, .string ⟨#[]⟩] 44))
  have G4 := Lib.hid ((HN2.out.below hb1 (by omega)).alloc (.cells #[.string (bs soapL), .string (bs cHeader), .slice none 0 0, .slice none 0 0, .string ⟨#[]⟩] 44))
  have G2 := Lib.hid (Blk.new w1 44 #[.string (bs soapL), .string (bs cHeader), .slice none 0 0, .slice none 0 0, .string ⟨#[]⟩])
  have HSZ := Lib.hid (show w.heap.size + 1 < w1.heap.size by omega)
  clear hb1 hs1 hz1 hal HN1 HN2 HBA
  go_wp2_with fail
  generalize hg3 : w1.heap.size = g3 at *
  have HS3 := Lib.hid (show g3 + 1 ≤ (w1.alloc (.cells #[.string (bs soapL), .string (bs cHeader), .slice none 0 0, .slice none 0 0, .string ⟨#[]⟩] 44)).heap.size by rw [World.size_alloc]; omega)
  generalize w1.alloc (.cells #[.string (bs soapL), .string (bs cHeader), .slice none 0 0, .slice none 0 0, .string ⟨#[]⟩] 44) = wr at *
  have G8 := HBW
  have hsz := HSZ.out; have hs3 := HS3.out
  refine wp_phiU_tail (List.take 16 _) (List.drop 16 _) (List.take_append_drop 16 _).symm (rT 15 (g3 + 1) 5 44 (.slice none 0 0) 0) (fun w' => Blk w' w.heap.size 46 #[.string (bs act), .string (bs tt), .string (bs ii), .string (bs []), .string (bs (r0 :: rl)), .slice ph hds.length ch, v0, v1, v2, v3, v4] ∧ Blk w' g3 44 #[.string (bs soapL), .string (bs cHeader), .slice none 0 0, .slice none 0 0, .string ⟨#[]⟩] ∧ Blk w' (w.heap.size + 1) 44 #[.string ⟨#[]⟩, .string ⟨#[]⟩, .slice none 0 0, .slice none 0 0, .string ⟨#[]⟩] ∧ Below w.heap.size w w' ∧ wr.heap.size ≤ w'.heap.size) [(2, PVal (.agg #[.string (bs addrL), .string (bs cAction)])), (5, PKidL (fun v => ∃ g, v = Value.agg #[.string (bs addrL), .string (bs cAction), .slice none 0 0, .slice (some ⟨g, 0, none⟩) 1 1, .string ⟨#[]⟩]) w.heap.size wr.heap.size (simpT addrL cAction act)), (6, PVal (.agg #[.string (bs addrL), .string (bs cTo)])), (9, PKidL (fun v => ∃ g, v = Value.agg #[.string (bs addrL), .string (bs cTo), .slice none 0 0, .slice (some ⟨g, 0, none⟩) 1 1, .string ⟨#[]⟩]) w.heap.size wr.heap.size (simpT addrL cTo tt)), (10, PVal (.agg #[.string (bs addrL), .string (bs cMessageID)])), (13, PKidL (fun v => ∃ g, v = Value.agg #[.string (bs addrL), .string (bs cMessageID), .slice none 0 0, .slice (some ⟨g, 0, none⟩) 1 1, .string ⟨#[]⟩]) w.heap.size wr.heap.size (simpT addrL cMessageID ii)), (14, PSl w.heap.size wr.heap.size 44 3 [simpT addrL cAction act, simpT addrL cTo tt, simpT addrL cMessageID ii]), (15, PRowG w.heap.size (g3 + 1) 5 44 3 ([] ++ [simpT addrL cAction act, simpT addrL cTo tt, simpT addrL cMessageID ii]))] [(14, [5, 9, 13]), (15, [2, 5, 6, 9, 10, 13, 14])] [] [] (by kernel_rfl) (by kernel_rfl) ?_ ?_ ?_ ?_ ?_ ?_
  · rintro p _ w1' w2' ⟨g1, g2, g4, g7, g8⟩ hR
    exact ⟨rT_blklo hR g1 (by omega), rT_blklo hR g2 (by omega), rT_blklo hR g4 (by omega), rT_below hR g7 (by omega) (by omega), Nat.le_trans g8 (rT_size hR)⟩
  · intro p hp p' hp' hne hks hns w1' w2' v hI hR hf
    have hv : ∀ g, (Value.slice none 0 0).ownBlock = some g → w.heap.size ≤ g ∧ g < wr.heap.size := fun g hg => by cases hg
    simp only [List.mem_cons, List.not_mem_nil, or_false] at hp hp'
    rcases hp with rfl | rfl | rfl | rfl | rfl | rfl | rfl | rfl
    · trivial
    · exact PKidL_stays hR hv hf
    · trivial
    · exact PKidL_stays hR hv hf
    · trivial
    · exact PKidL_stays hR hv hf
    · exact PSl_stays hR hv hf
    · rcases hp' with rfl | rfl | rfl | rfl | rfl | rfl | rfl | rfl
      · exact absurd (show (2 : Nat) ∈ needs [(14, [5, 9, 13]), (15, [2, 5, 6, 9, 10, 13, 14])] 15 by decide) hns
      · exact absurd (show (5 : Nat) ∈ needs [(14, [5, 9, 13]), (15, [2, 5, 6, 9, 10, 13, 14])] 15 by decide) hns
      · exact absurd (show (6 : Nat) ∈ needs [(14, [5, 9, 13]), (15, [2, 5, 6, 9, 10, 13, 14])] 15 by decide) hns
      · exact absurd (show (9 : Nat) ∈ needs [(14, [5, 9, 13]), (15, [2, 5, 6, 9, 10, 13, 14])] 15 by decide) hns
      · exact absurd (show (10 : Nat) ∈ needs [(14, [5, 9, 13]), (15, [2, 5, 6, 9, 10, 13, 14])] 15 by decide) hns
      · exact absurd (show (13 : Nat) ∈ needs [(14, [5, 9, 13]), (15, [2, 5, 6, 9, 10, 13, 14])] 15 by decide) hns
      · exact absurd (show (14 : Nat) ∈ needs [(14, [5, 9, 13]), (15, [2, 5, 6, 9, 10, 13, 14])] 15 by decide) hns
      · exact absurd rfl hne
  · intro p hp u hu hne w1' w2' hI hR hf
    cases hu
  · intro u hu
    cases hu
  · exact ⟨G1.out, G2.out, G4.out, G8.out.drew, Nat.le_refl _⟩
  simp only [List.take_succ_cons, List.take_zero, List.drop_succ_cons, List.drop_zero]
  clear G1 G2 G4 G8
  repeat (first | (refine phiU_skipK rfl (fun K hK => ?_); simp only [Act.put, List.setIfInBounds_toArray, List.set_cons_succ, List.set_cons_zero, List.cons_append, List.nil_append]; apply hK; clear hK K) | (refine phiU_pureK rfl rfl (fun K hK => ?_); apply Exists.intro; constructor; (focus (rintro w' ⟨g1, g2, g4, g7, g8⟩; have e0 := (g1.cell 0).trans rfl; have e1 := (g1.cell 1).trans rfl; have e2 := (g1.cell 2).trans rfl; have k3 := (g2.cell 3).trans rfl; clear g1 g2 g4 g7 g8; first | (go_simp; done) | (go_simp; (try go_bits); (try go_simp); rfl) | go_simp)); simp only [Act.put, List.setIfInBounds_toArray, List.set_cons_succ, List.set_cons_zero]; apply hK; clear hK K))
  refine phiU_partK (PVal (.agg #[.string (bs addrL), .string (bs cAction)])) rfl rfl ⟨_, rfl⟩ ?_ (fun K hK v hv => ?_)
  · rintro w' ⟨g1, g2, g4, g7, g8⟩ hf hu
    clear hf hu g1 g2 g4 g7 g8
    unfold gives
    go_simp
    refine (saddr_any cAction w').mono ?_
    rintro e w'' ⟨rfl, hb⟩
    exact ⟨_, rfl, rfl, trivial, by rw [rT_o (by decide)]; exact hb⟩
  obtain rfl : v = _ := hv
  simp only [Act.put, List.setIfInBounds_toArray, List.set_cons_succ, List.set_cons_zero, List.nil_append]
  apply hK
  clear hK K
  repeat (first | (refine phiU_skipK rfl (fun K hK => ?_); simp only [Act.put, List.setIfInBounds_toArray, List.set_cons_succ, List.set_cons_zero, List.cons_append, List.nil_append]; apply hK; clear hK K) | (refine phiU_pureK rfl rfl (fun K hK => ?_); apply Exists.intro; constructor; (focus (rintro w' ⟨g1, g2, g4, g7, g8⟩; have e0 := (g1.cell 0).trans rfl; have e1 := (g1.cell 1).trans rfl; have e2 := (g1.cell 2).trans rfl; have k3 := (g2.cell 3).trans rfl; clear g1 g2 g4 g7 g8; first | (go_simp; done) | (go_simp; (try go_bits); (try go_simp); rfl) | go_simp)); simp only [Act.put, List.setIfInBounds_toArray, List.set_cons_succ, List.set_cons_zero]; apply hK; clear hK K))
  refine phiU_partK (PKidL (fun v => ∃ g, v = Value.agg #[.string (bs addrL), .string (bs cAction), .slice none 0 0, .slice (some ⟨g, 0, none⟩) 1 1, .string ⟨#[]⟩]) w.heap.size wr.heap.size (simpT addrL cAction act)) rfl rfl ⟨_, 0, rfl⟩ ?_ (fun K hK v hv => ?_)
  · rintro w' ⟨g1, g2, g4, g7, g8⟩ hf hu
    have HG := Lib.hid g8
    clear hf hu g1 g2 g4 g7 g8
    unfold gives
    go_simp
    refine (simple_any addrL cAction act w').mono ?_
    rintro e w'' ⟨g, rfl, hg, hlt, hk, hb⟩
    exact ⟨_, rfl, ⟨g, rfl⟩, ⟨_, w''.heap.size, rfl, simp_trx (by have := HG.out; omega) hk, Nat.le_refl _⟩, by rw [rT_o (by decide)]; exact hb⟩
  obtain ⟨q5, rfl⟩ := hv
  simp only [Act.put, List.setIfInBounds_toArray, List.set_cons_succ, List.set_cons_zero, List.cons_append, List.nil_append]
  apply hK
  clear hK K
  repeat (first | (refine phiU_skipK rfl (fun K hK => ?_); simp only [Act.put, List.setIfInBounds_toArray, List.set_cons_succ, List.set_cons_zero, List.cons_append, List.nil_append]; apply hK; clear hK K) | (refine phiU_pureK rfl rfl (fun K hK => ?_); apply Exists.intro; constructor; (focus (rintro w' ⟨g1, g2, g4, g7, g8⟩; have e0 := (g1.cell 0).trans rfl; have e1 := (g1.cell 1).trans rfl; have e2 := (g1.cell 2).trans rfl; have k3 := (g2.cell 3).trans rfl; clear g1 g2 g4 g7 g8; first | (go_simp; done) | (go_simp; (try go_bits); (try go_simp); rfl) | go_simp)); simp only [Act.put, List.setIfInBounds_toArray, List.set_cons_succ, List.set_cons_zero, List.cons_append, List.nil_append]; apply hK; clear hK K))
  refine phiU_partK (PVal (.agg #[.string (bs addrL), .string (bs cTo)])) rfl rfl ⟨_, rfl⟩ ?_ (fun K hK v hv => ?_)
  · rintro w' ⟨g1, g2, g4, g7, g8⟩ hf hu
    clear hf hu g1 g2 g4 g7 g8
    unfold gives
    go_simp
    refine (saddr_any cTo w').mono ?_
    rintro e w'' ⟨rfl, hb⟩
    exact ⟨_, rfl, rfl, trivial, by rw [rT_o (by decide)]; exact hb⟩
  obtain rfl : v = _ := hv
  simp only [Act.put, List.setIfInBounds_toArray, List.set_cons_succ, List.set_cons_zero, List.cons_append, List.nil_append]
  apply hK
  clear hK K
  repeat (first | (refine phiU_skipK rfl (fun K hK => ?_); simp only [Act.put, List.setIfInBounds_toArray, List.set_cons_succ, List.set_cons_zero, List.cons_append, List.nil_append]; apply hK; clear hK K) | (refine phiU_pureK rfl rfl (fun K hK => ?_); apply Exists.intro; constructor; (focus (rintro w' ⟨g1, g2, g4, g7, g8⟩; have e0 := (g1.cell 0).trans rfl; have e1 := (g1.cell 1).trans rfl; have e2 := (g1.cell 2).trans rfl; have k3 := (g2.cell 3).trans rfl; clear g1 g2 g4 g7 g8; first | (go_simp; done) | (go_simp; (try go_bits); (try go_simp); rfl) | go_simp)); simp only [Act.put, List.setIfInBounds_toArray, List.set_cons_succ, List.set_cons_zero]; apply hK; clear hK K))
  refine phiU_partK (PKidL (fun v => ∃ g, v = Value.agg #[.string (bs addrL), .string (bs cTo), .slice none 0 0, .slice (some ⟨g, 0, none⟩) 1 1, .string ⟨#[]⟩]) w.heap.size wr.heap.size (simpT addrL cTo tt)) rfl rfl ⟨_, 0, rfl⟩ ?_ (fun K hK v hv => ?_)
  · rintro w' ⟨g1, g2, g4, g7, g8⟩ hf hu
    have HG := Lib.hid g8
    clear hf hu g1 g2 g4 g7 g8
    unfold gives
    go_simp
    refine (simple_any addrL cTo tt w').mono ?_
    rintro e w'' ⟨g, rfl, hg, hlt, hk, hb⟩
    exact ⟨_, rfl, ⟨g, rfl⟩, ⟨_, w''.heap.size, rfl, simp_trx (by have := HG.out; omega) hk, Nat.le_refl _⟩, by rw [rT_o (by decide)]; exact hb⟩
  obtain ⟨q9, rfl⟩ := hv
  simp only [Act.put, List.setIfInBounds_toArray, List.set_cons_succ, List.set_cons_zero, List.cons_append, List.nil_append]
  apply hK
  clear hK K
  repeat (first | (refine phiU_skipK rfl (fun K hK => ?_); simp only [Act.put, List.setIfInBounds_toArray, List.set_cons_succ, List.set_cons_zero, List.cons_append, List.nil_append]; apply hK; clear hK K) | (refine phiU_pureK rfl rfl (fun K hK => ?_); apply Exists.intro; constructor; (focus (rintro w' ⟨g1, g2, g4, g7, g8⟩; have e0 := (g1.cell 0).trans rfl; have e1 := (g1.cell 1).trans rfl; have e2 := (g1.cell 2).trans rfl; have k3 := (g2.cell 3).trans rfl; clear g1 g2 g4 g7 g8; first | (go_simp; done) | (go_simp; (try go_bits); (try go_simp); rfl) | go_simp)); simp only [Act.put, List.setIfInBounds_toArray, List.set_cons_succ, List.set_cons_zero, List.cons_append, List.nil_append]; apply hK; clear hK K))
  refine phiU_partK (PVal (.agg #[.string (bs addrL), .string (bs cMessageID)])) rfl rfl ⟨_, rfl⟩ ?_ (fun K hK v hv => ?_)
  · rintro w' ⟨g1, g2, g4, g7, g8⟩ hf hu
    clear hf hu g1 g2 g4 g7 g8
    unfold gives
    go_simp
    refine (saddr_any cMessageID w').mono ?_
    rintro e w'' ⟨rfl, hb⟩
    exact ⟨_, rfl, rfl, trivial, by rw [rT_o (by decide)]; exact hb⟩
  obtain rfl : v = _ := hv
  simp only [Act.put, List.setIfInBounds_toArray, List.set_cons_succ, List.set_cons_zero, List.cons_append, List.nil_append]
  apply hK
  clear hK K
  repeat (first | (refine phiU_skipK rfl (fun K hK => ?_); simp only [Act.put, List.setIfInBounds_toArray, List.set_cons_succ, List.set_cons_zero, List.cons_append, List.nil_append]; apply hK; clear hK K) | (refine phiU_pureK rfl rfl (fun K hK => ?_); apply Exists.intro; constructor; (focus (rintro w' ⟨g1, g2, g4, g7, g8⟩; have e0 := (g1.cell 0).trans rfl; have e1 := (g1.cell 1).trans rfl; have e2 := (g1.cell 2).trans rfl; have k3 := (g2.cell 3).trans rfl; clear g1 g2 g4 g7 g8; first | (go_simp; done) | (go_simp; (try go_bits); (try go_simp); rfl) | go_simp)); simp only [Act.put, List.setIfInBounds_toArray, List.set_cons_succ, List.set_cons_zero]; apply hK; clear hK K))
  refine phiU_partK (PKidL (fun v => ∃ g, v = Value.agg #[.string (bs addrL), .string (bs cMessageID), .slice none 0 0, .slice (some ⟨g, 0, none⟩) 1 1, .string ⟨#[]⟩]) w.heap.size wr.heap.size (simpT addrL cMessageID ii)) rfl rfl ⟨_, 0, rfl⟩ ?_ (fun K hK v hv => ?_)
  · rintro w' ⟨g1, g2, g4, g7, g8⟩ hf hu
    have HG := Lib.hid g8
    clear hf hu g1 g2 g4 g7 g8
    unfold gives
    go_simp
    refine (simple_any addrL cMessageID ii w').mono ?_
    rintro e w'' ⟨g, rfl, hg, hlt, hk, hb⟩
    exact ⟨_, rfl, ⟨g, rfl⟩, ⟨_, w''.heap.size, rfl, simp_trx (by have := HG.out; omega) hk, Nat.le_refl _⟩, by rw [rT_o (by decide)]; exact hb⟩
  obtain ⟨q13, rfl⟩ := hv
  simp only [Act.put, List.setIfInBounds_toArray, List.set_cons_succ, List.set_cons_zero, List.cons_append, List.nil_append]
  apply hK
  clear hK K
  repeat (first | (refine phiU_skipK rfl (fun K hK => ?_); simp only [Act.put, List.setIfInBounds_toArray, List.set_cons_succ, List.set_cons_zero, List.cons_append, List.nil_append]; apply hK; clear hK K) | (refine phiU_pureK rfl rfl (fun K hK => ?_); apply Exists.intro; constructor; (focus (rintro w' ⟨g1, g2, g4, g7, g8⟩; have e0 := (g1.cell 0).trans rfl; have e1 := (g1.cell 1).trans rfl; have e2 := (g1.cell 2).trans rfl; have k3 := (g2.cell 3).trans rfl; clear g1 g2 g4 g7 g8; first | (go_simp; done) | (go_simp; (try go_bits); (try go_simp); rfl) | go_simp)); simp only [Act.put, List.setIfInBounds_toArray, List.set_cons_succ, List.set_cons_zero, List.cons_append, List.nil_append]; apply hK; clear hK K))
  refine phiU_partK (PSl w.heap.size wr.heap.size 44 3 [simpT addrL cAction act, simpT addrL cTo tt, simpT addrL cMessageID ii]) rfl rfl ⟨_, 0, rfl⟩ ?_ (fun K hK v hv => ?_)
  · rintro w' ⟨g1, g2, g4, g7, g8⟩ hf hu
    have f5 := hf (5, fun w1 => (PKidL (fun v => ∃ g, v = Value.agg #[.string (bs addrL), .string (bs cAction), .slice none 0 0, .slice (some ⟨g, 0, none⟩) 1 1, .string ⟨#[]⟩]) w.heap.size wr.heap.size (simpT addrL cAction act)).fact w1 (.agg #[.string (bs addrL), .string (bs cAction), .slice none 0 0, .slice (some ⟨q5, 0, none⟩) 1 1, .string ⟨#[]⟩])) (by simp) (List.contains_iff_mem.1 rfl) rfl
    have f9 := hf (9, fun w1 => (PKidL (fun v => ∃ g, v = Value.agg #[.string (bs addrL), .string (bs cTo), .slice none 0 0, .slice (some ⟨g, 0, none⟩) 1 1, .string ⟨#[]⟩]) w.heap.size wr.heap.size (simpT addrL cTo tt)).fact w1 (.agg #[.string (bs addrL), .string (bs cTo), .slice none 0 0, .slice (some ⟨q9, 0, none⟩) 1 1, .string ⟨#[]⟩])) (by simp) (List.contains_iff_mem.1 rfl) rfl
    have f13 := hf (13, fun w1 => (PKidL (fun v => ∃ g, v = Value.agg #[.string (bs addrL), .string (bs cMessageID), .slice none 0 0, .slice (some ⟨g, 0, none⟩) 1 1, .string ⟨#[]⟩]) w.heap.size wr.heap.size (simpT addrL cMessageID ii)).fact w1 (.agg #[.string (bs addrL), .string (bs cMessageID), .slice none 0 0, .slice (some ⟨q13, 0, none⟩) 1 1, .string ⟨#[]⟩])) (by simp) (List.contains_iff_mem.1 rfl) rfl
    have F5 := Lib.hid f5
    have F9 := Lib.hid f9
    have F13 := Lib.hid f13
    have HG := Lib.hid g8
    clear hf hu f5 f9 f13 g1 g2 g4 g7 g8
    unfold gives
    go_simp
    refine ⟨⟨_, rfl⟩, fun g hg => ?_, by rw [rT_o (by decide)]; exact below_alloc1 _ _⟩
    obtain rfl : w'.heap.size = g := by simpa using hg
    obtain ⟨c5, B5, e5, t5, b5⟩ := F5.out
    injection e5 with e5
    have e5 := congrArg Array.toList e5
    dsimp only at e5
    subst e5
    obtain ⟨c9, B9, e9, t9, b9⟩ := F9.out
    injection e9 with e9
    have e9 := congrArg Array.toList e9
    dsimp only at e9
    subst e9
    obtain ⟨c13, B13, e13, t13, b13⟩ := F13.out
    injection e13 with e13
    have e13 := congrArg Array.toList e13
    dsimp only at e13
    subst e13
    refine ⟨HG.out, [[.string (bs addrL), .string (bs cAction), .slice none 0 0, .slice (some ⟨q5, 0, none⟩) 1 1, .string ⟨#[]⟩], [.string (bs addrL), .string (bs cTo), .slice none 0 0, .slice (some ⟨q9, 0, none⟩) 1 1, .string ⟨#[]⟩], [.string (bs addrL), .string (bs cMessageID), .slice none 0 0, .slice (some ⟨q13, 0, none⟩) 1 1, .string ⟨#[]⟩]], _, Blk.new _ _ _, ?_, Nat.le_refl _⟩
    exact ⟨_, _, rfl, t5.high (below_alloc1 _ _) b5, ⟨_, _, rfl, t9.high (below_alloc1 _ _) b9, ⟨_, _, rfl, t13.high (below_alloc1 _ _) b13, rfl⟩⟩⟩
  obtain ⟨y14, rfl⟩ := hv
  simp only [Act.put, List.setIfInBounds_toArray, List.set_cons_succ, List.set_cons_zero, List.cons_append, List.nil_append]
  apply hK
  clear hK K
  refine phiU_partK (PRowG w.heap.size (g3 + 1) 5 44 3 ([] ++ [simpT addrL cAction act, simpT addrL cTo tt, simpT addrL cMessageID ii])) rfl rfl ⟨_, none, 0, rfl⟩ ?_ (fun K hK v hv => ?_)
  · rintro w' ⟨g1, g2, g4, g7, g8⟩ hf hu
    have f4 := hf (14, fun w1 => (PSl w.heap.size wr.heap.size 44 3 [simpT addrL cAction act, simpT addrL cTo tt, simpT addrL cMessageID ii]).fact w1 (.slice (some ⟨y14, 0, none⟩) 3 3)) (by simp) (List.contains_iff_mem.1 rfl) rfl y14 rfl
    obtain ⟨h4b, css9, B, b4, t4, l4⟩ := f4
    have hu8 : w'.ownsRow (g3 + 1) 44 5 (.slice none 0 0) 0 [] := ⟨rfl, .inl ⟨rfl, rfl⟩⟩
    clear hf hu
    refine gives_appAt (.tmp 8) (.tmp 21) 39 rfl (g3 + 1) 44 i9 (.agg #[.string ⟨#[]⟩, .string ⟨#[]⟩, .slice none 0 0, .slice none 0 0, .string ⟨#[]⟩]) 5 96 Tryz.underlying39 hi9 hy0 hy1 hy2 rfl (by decide) _ _ _ rfl hu8 _ _ _ css9.flatten rfl (by rw [trxl_flen _ _ (k := 2) (by simp [simpT, Tr.nm]) t4]; rfl) (rd_blk b4) (trxl_ones _ _ t4) (by unfold maxLen; omega) (by omega) (by omega) ?_
    intro v2 w2 ho2 hg2 hat2
    obtain ⟨p2, c2, rfl, _, _, _⟩ := owns_rd ho2
    refine ⟨⟨p2, c2, rfl⟩, prow_stepG (css := []) hg2 hat2 (fun g hg => by cases hg) (B0 := wr.heap.size) (by omega) (by omega) (by omega) rfl t4 l4 (by rw [List.flatten_append]; exact ho2), ?_⟩
    rw [rT_at]
    exact ⟨⟨_, hu8⟩, hg2⟩
  obtain ⟨p15, c15, rfl⟩ := hv
  simp only [Act.put, List.setIfInBounds_toArray, List.set_cons_succ, List.set_cons_zero, List.cons_append, List.nil_append]
  apply hK
  clear hK K
  repeat (first | (refine phiU_skipK rfl (fun K hK => ?_); simp only [Act.put, List.setIfInBounds_toArray, List.set_cons_succ, List.set_cons_zero, List.cons_append, List.nil_append]; apply hK; clear hK K) | (refine phiU_pureK rfl rfl (fun K hK => ?_); apply Exists.intro; constructor; (focus (rintro w' ⟨g1, g2, g4, g7, g8⟩; have e0 := (g1.cell 0).trans rfl; have e1 := (g1.cell 1).trans rfl; have e2 := (g1.cell 2).trans rfl; have k3 := (g2.cell 3).trans rfl; clear g1 g2 g4 g7 g8; first | (go_simp; done) | (go_simp; (try go_bits); (try go_simp); rfl) | go_simp)); simp only [Act.put, List.setIfInBounds_toArray, List.set_cons_succ, List.set_cons_zero, List.cons_append, List.nil_append]; apply hK; clear hK K))
  refine phiU_done ?_
  rintro w9 ⟨g1, g2, g4, g7, g8⟩ hf
  obtain ⟨css9, ho9, hk9⟩ := hf (15, fun w1 => (PRowG w.heap.size (g3 + 1) 5 44 3 ([] ++ [simpT addrL cAction act, simpT addrL cTo tt, simpT addrL cMessageID ii])).fact w1 (.slice p15 3 c15)) (by simp) rfl
  have f3 := g2.frozen 3
  have k3 := (g2.cell 3).trans rfl
  have O9 := ((Only.refl g3 w9).set_ 3 (.slice p15 3 c15))
  have R1 := Lib.hid (O9.blk g1 (by omega))
  have R4 := Lib.hid (O9.blk g4 (by omega))
  have R2 := Lib.hid (show Blk (w9.setCell ⟨g3, 3, none⟩ (.slice p15 3 c15)) g3 44 #[.string (bs soapL), .string (bs cHeader), .slice none 0 0, .slice p15 3 c15, .string ⟨#[]⟩] from g2.set_ 3 _)
  have R8 := Lib.hid (g7.setCell (p := ⟨g3, 3, none⟩) (show w.heap.size ≤ g3 by omega) (.slice p15 3 c15))
  have R6 := Lib.hid (O9.owns2 ho9 (by omega))
  have R7 := Lib.hid (hk9.only O9 (fun b hb => by rcases hb with hb | hb; omega; (have := hb.1; omega)))
  rw [show w9.heap.size = (w9.setCell ⟨g3, 3, none⟩ (.slice p15 3 c15)).heap.size from O9.size.symm] at R7
  have HO9S := Lib.hid O9.size
  have S9 := Lib.hid (show wr.heap.size ≤ (w9.setCell ⟨g3, 3, none⟩ (.slice p15 3 c15)).heap.size by rw [O9.size]; exact g8)
  have e3 := (R1.out.cell 3).trans rfl
  have e4 := (R1.out.cell 4).trans rfl
  have e5 := (R1.out.cell 5).trans rfl
  clear hf g1 g2 g4 g7 g8 O9 ho9 hk9
  go_wp2_with fail
  clear f3 k3 e3 e4 e5
  generalize w9.setCell ⟨g3, 3, none⟩ (.slice p15 3 c15) = wN at *
  have hsz9 := S9.out
  have HS4 := Lib.hid (show g3 + 1 ≤ wN.heap.size by omega)
  clear hsz9 hs3 HS3 S9 HO9S
  clear HBW wr
  have G1 := R1; have G2 := R2; have G4 := R4; have G6 := R6; have G7 := R7; have G8 := R8; have HS3 := HS4
  clear R1 R2 R4 R6 R7 R8 HS4
  generalize css9 = css at *
  generalize wN = wr at *
  have HVL := Lib.hid (show ∀ g, (Value.slice p15 3 c15).ownBlock = some g → w.heap.size ≤ g ∧ g < wr.heap.size from fun g hg => ⟨by have := (G6.out.lt g hg).1; omega, (G6.out.lt g hg).2⟩)
  have hs3 := HS3.out
  refine wp_phiU_tail (List.take 8 _) (List.drop 8 _) (List.take_append_drop 8 _).symm (rT 7 (g3 + 1) 5 44 (.slice p15 3 c15) 3) (fun w' => Blk w' w.heap.size 46 #[.string (bs act), .string (bs tt), .string (bs ii), .string (bs []), .string (bs (r0 :: rl)), .slice ph hds.length ch, v0, v1, v2, v3, v4] ∧ Blk w' g3 44 #[.string (bs soapL), .string (bs cHeader), .slice none 0 0, .slice p15 3 c15, .string ⟨#[]⟩] ∧ Blk w' (w.heap.size + 1) 44 #[.string ⟨#[]⟩, .string ⟨#[]⟩, .slice none 0 0, .slice none 0 0, .string ⟨#[]⟩] ∧ TrXL w' (BtL w.heap.size (g3 + 1) wr.heap.size (Value.slice p15 3 c15).ownBlock) ([simpT addrL cAction act, simpT addrL cTo tt, simpT addrL cMessageID ii]) css ∧ Below w.heap.size w w' ∧ wr.heap.size ≤ w'.heap.size) [(2, PVal (.agg #[.string (bs addrL), .string (bs cRelatesTo)])), (5, PKidL (fun v => ∃ g, v = Value.agg #[.string (bs addrL), .string (bs cRelatesTo), .slice none 0 0, .slice (some ⟨g, 0, none⟩) 1 1, .string ⟨#[]⟩]) w.heap.size wr.heap.size (simpT addrL cRelatesTo (r0 :: rl))), (6, PSl w.heap.size wr.heap.size 44 1 [simpT addrL cRelatesTo (r0 :: rl)]), (7, PRowG w.heap.size (g3 + 1) 5 44 4 ([simpT addrL cAction act, simpT addrL cTo tt, simpT addrL cMessageID ii] ++ [simpT addrL cRelatesTo (r0 :: rl)]))] [(6, [5]), (7, [2, 5, 6])] [(7, fun w' => w'.ownsRow (g3 + 1) 44 5 (.slice p15 3 c15) 3 css.flatten)] [] (by kernel_rfl) (by kernel_rfl) ?_ ?_ ?_ ?_ ?_ ?_
  · rintro p _ w1' w2' ⟨g1, g2, g4, g6, g7, g8⟩ hR
    exact ⟨rT_blklo hR g1 (by omega), rT_blklo hR g2 (by omega), rT_blklo hR g4 (by omega), rT_trxl hR g6 (fun b hb e => by rcases hb with hb | hb; (have := (HVL.out _ e).1; omega); exact hb.2.2 e), rT_below hR g7 (by omega) (by omega), Nat.le_trans g8 (rT_size hR)⟩
  · intro p hp p' hp' hne hks hns w1' w2' v hI hR hf
    have hv : ∀ g, (Value.slice p15 3 c15).ownBlock = some g → w.heap.size ≤ g ∧ g < wr.heap.size := HVL.out
    simp only [List.mem_cons, List.not_mem_nil, or_false] at hp hp'
    rcases hp with rfl | rfl | rfl | rfl
    · trivial
    · exact PKidL_stays hR hv hf
    · exact PSl_stays hR hv hf
    · rcases hp' with rfl | rfl | rfl | rfl
      · exact absurd (show (2 : Nat) ∈ needs [(6, [5]), (7, [2, 5, 6])] 7 by decide) hns
      · exact absurd (show (5 : Nat) ∈ needs [(6, [5]), (7, [2, 5, 6])] 7 by decide) hns
      · exact absurd (show (6 : Nat) ∈ needs [(6, [5]), (7, [2, 5, 6])] 7 by decide) hns
      · exact absurd rfl hne
  · intro p hp u hu hne w1' w2' hI hR hf
    simp only [List.mem_cons, List.not_mem_nil, or_false] at hp hu
    subst hu
    rcases hp with rfl | rfl | rfl | rfl
    · have hR := rT_o (show (2 : Nat) ≠ 7 by decide) ▸ hR
      exact owns_below hf hR
    · have hR := rT_o (show (5 : Nat) ≠ 7 by decide) ▸ hR
      exact owns_below hf hR
    · have hR := rT_o (show (6 : Nat) ≠ 7 by decide) ▸ hR
      exact owns_below hf hR
    · exact absurd rfl hne
  · intro u hu
    simp only [List.mem_cons, List.not_mem_nil, or_false] at hu
    subst hu
    exact owns_below G6.out (Below.refl _ _).drew
  · exact ⟨G1.out, G2.out, G4.out, G7.out.below (Below.refl _ _).drew, G8.out.drew, Nat.le_refl _⟩
  simp only [List.take_succ_cons, List.take_zero, List.drop_succ_cons, List.drop_zero]
  clear G1 G2 G4 G6 G7 G8
  repeat (first | (refine phiU_skipK rfl (fun K hK => ?_); simp only [Act.put, List.setIfInBounds_toArray, List.set_cons_succ, List.set_cons_zero, List.cons_append, List.nil_append]; apply hK; clear hK K) | (refine phiU_pureK rfl rfl (fun K hK => ?_); apply Exists.intro; constructor; (focus (rintro w' ⟨g1, g2, g4, g6, g7, g8⟩; have e4 := (g1.cell 4).trans rfl; have k3 := (g2.cell 3).trans rfl; clear g1 g2 g4 g6 g7 g8; first | (go_simp; done) | (go_simp; (try go_bits); (try go_simp); rfl) | go_simp)); simp only [Act.put, List.setIfInBounds_toArray, List.set_cons_succ, List.set_cons_zero]; apply hK; clear hK K))
  refine phiU_partK (PVal (.agg #[.string (bs addrL), .string (bs cRelatesTo)])) rfl rfl ⟨_, rfl⟩ ?_ (fun K hK v hv => ?_)
  · rintro w' ⟨g1, g2, g4, g6, g7, g8⟩ hf hu
    clear hf hu g1 g2 g4 g6 g7 g8
    unfold gives
    go_simp
    refine (saddr_any cRelatesTo w').mono ?_
    rintro e w'' ⟨rfl, hb⟩
    exact ⟨_, rfl, rfl, trivial, by rw [rT_o (by decide)]; exact hb⟩
  obtain rfl : v = _ := hv
  simp only [Act.put, List.setIfInBounds_toArray, List.set_cons_succ, List.set_cons_zero, List.nil_append]
  apply hK
  clear hK K
  repeat (first | (refine phiU_skipK rfl (fun K hK => ?_); simp only [Act.put, List.setIfInBounds_toArray, List.set_cons_succ, List.set_cons_zero, List.cons_append, List.nil_append]; apply hK; clear hK K) | (refine phiU_pureK rfl rfl (fun K hK => ?_); apply Exists.intro; constructor; (focus (rintro w' ⟨g1, g2, g4, g6, g7, g8⟩; have e4 := (g1.cell 4).trans rfl; have k3 := (g2.cell 3).trans rfl; clear g1 g2 g4 g6 g7 g8; first | (go_simp; done) | (go_simp; (try go_bits); (try go_simp); rfl) | go_simp)); simp only [Act.put, List.setIfInBounds_toArray, List.set_cons_succ, List.set_cons_zero]; apply hK; clear hK K))
  refine phiU_partK (PKidL (fun v => ∃ g, v = Value.agg #[.string (bs addrL), .string (bs cRelatesTo), .slice none 0 0, .slice (some ⟨g, 0, none⟩) 1 1, .string ⟨#[]⟩]) w.heap.size wr.heap.size (simpT addrL cRelatesTo (r0 :: rl))) rfl rfl ⟨_, 0, rfl⟩ ?_ (fun K hK v hv => ?_)
  · rintro w' ⟨g1, g2, g4, g6, g7, g8⟩ hf hu
    have HG := Lib.hid g8
    clear hf hu g1 g2 g4 g6 g7 g8
    unfold gives
    go_simp
    refine (simple_any addrL cRelatesTo (r0 :: rl) w').mono ?_
    rintro e w'' ⟨g, rfl, hg, hlt, hk, hb⟩
    exact ⟨_, rfl, ⟨g, rfl⟩, ⟨_, w''.heap.size, rfl, simp_trx (by have := HG.out; omega) hk, Nat.le_refl _⟩, by rw [rT_o (by decide)]; exact hb⟩
  obtain ⟨q5, rfl⟩ := hv
  simp only [Act.put, List.setIfInBounds_toArray, List.set_cons_succ, List.set_cons_zero, List.cons_append, List.nil_append]
  apply hK
  clear hK K
  refine phiU_partK (PSl w.heap.size wr.heap.size 44 1 [simpT addrL cRelatesTo (r0 :: rl)]) rfl rfl ⟨_, 0, rfl⟩ ?_ (fun K hK v hv => ?_)
  · rintro w' ⟨g1, g2, g4, g6, g7, g8⟩ hf hu
    have f5 := hf (5, fun w1 => (PKidL (fun v => ∃ g, v = Value.agg #[.string (bs addrL), .string (bs cRelatesTo), .slice none 0 0, .slice (some ⟨g, 0, none⟩) 1 1, .string ⟨#[]⟩]) w.heap.size wr.heap.size (simpT addrL cRelatesTo (r0 :: rl))).fact w1 (.agg #[.string (bs addrL), .string (bs cRelatesTo), .slice none 0 0, .slice (some ⟨q5, 0, none⟩) 1 1, .string ⟨#[]⟩])) (by simp) (List.contains_iff_mem.1 rfl) rfl
    have F5 := Lib.hid f5
    have HG := Lib.hid g8
    clear hf hu f5 g1 g2 g4 g6 g7 g8
    unfold gives
    go_simp
    refine ⟨⟨_, rfl⟩, fun g hg => ?_, by rw [rT_o (by decide)]; exact below_alloc1 _ _⟩
    obtain rfl : w'.heap.size = g := by simpa using hg
    obtain ⟨c5, B5, e5, t5, b5⟩ := F5.out
    injection e5 with e5
    have e5 := congrArg Array.toList e5
    dsimp only at e5
    subst e5
    refine ⟨HG.out, [[.string (bs addrL), .string (bs cRelatesTo), .slice none 0 0, .slice (some ⟨q5, 0, none⟩) 1 1, .string ⟨#[]⟩]], _, Blk.new _ _ _, ?_, Nat.le_refl _⟩
    exact ⟨_, _, rfl, t5.high (below_alloc1 _ _) b5, rfl⟩
  obtain ⟨y6, rfl⟩ := hv
  simp only [Act.put, List.setIfInBounds_toArray, List.set_cons_succ, List.set_cons_zero, List.cons_append, List.nil_append]
  apply hK
  clear hK K
  refine phiU_partK (PRowG w.heap.size (g3 + 1) 5 44 4 ([simpT addrL cAction act, simpT addrL cTo tt, simpT addrL cMessageID ii] ++ [simpT addrL cRelatesTo (r0 :: rl)])) rfl rfl ⟨_, none, 0, rfl⟩ ?_ (fun K hK v hv => ?_)
  · rintro w' ⟨g1, g2, g4, g6, g7, g8⟩ hf hu
    have f4 := hf (6, fun w1 => (PSl w.heap.size wr.heap.size 44 1 [simpT addrL cRelatesTo (r0 :: rl)]).fact w1 (.slice (some ⟨y6, 0, none⟩) 1 1)) (by simp) (List.contains_iff_mem.1 rfl) rfl y6 rfl
    obtain ⟨h4b, css9, B, b4, t4, l4⟩ := f4
    have hu8 : w'.ownsRow (g3 + 1) 44 5 (.slice p15 3 c15) 3 css.flatten := hu (7, fun w' => w'.ownsRow (g3 + 1) 44 5 (.slice p15 3 c15) 3 css.flatten) (by simp) rfl
    clear hf hu
    refine gives_appAt (.tmp 43) (.tmp 48) 39 rfl (g3 + 1) 44 i9 (.agg #[.string ⟨#[]⟩, .string ⟨#[]⟩, .slice none 0 0, .slice none 0 0, .string ⟨#[]⟩]) 5 96 Tryz.underlying39 hi9 hy0 hy1 hy2 rfl (by decide) _ _ _ rfl hu8 _ _ _ css9.flatten rfl (by rw [trxl_flen _ _ (k := 2) (by simp [simpT, Tr.nm]) t4]; rfl) (rd_blk b4) (trxl_ones _ _ t4) (by unfold maxLen; omega) (by omega) (by omega) ?_
    intro v2 w2 ho2 hg2 hat2
    obtain ⟨p2, c2, rfl, _, _, _⟩ := owns_rd ho2
    refine ⟨⟨p2, c2, rfl⟩, prow_stepG (css := css) hg2 hat2 HVL.out (B0 := wr.heap.size) (by omega) (by omega) (by omega) g6 t4 l4 (by rw [List.flatten_append]; exact ho2), ?_⟩
    rw [rT_at]
    exact ⟨⟨_, hu8⟩, hg2⟩
  obtain ⟨p7, c7, rfl⟩ := hv
  simp only [Act.put, List.setIfInBounds_toArray, List.set_cons_succ, List.set_cons_zero, List.cons_append, List.nil_append]
  apply hK
  clear hK K
  repeat (first | (refine phiU_skipK rfl (fun K hK => ?_); simp only [Act.put, List.setIfInBounds_toArray, List.set_cons_succ, List.set_cons_zero, List.cons_append, List.nil_append]; apply hK; clear hK K) | (refine phiU_pureK rfl rfl (fun K hK => ?_); apply Exists.intro; constructor; (focus (rintro w' ⟨g1, g2, g4, g6, g7, g8⟩; have e4 := (g1.cell 4).trans rfl; have k3 := (g2.cell 3).trans rfl; clear g1 g2 g4 g6 g7 g8; first | (go_simp; done) | (go_simp; (try go_bits); (try go_simp); rfl) | go_simp)); simp only [Act.put, List.setIfInBounds_toArray, List.set_cons_succ, List.set_cons_zero, List.cons_append, List.nil_append]; apply hK; clear hK K))
  refine phiU_done ?_
  rintro w9 ⟨g1, g2, g4, g6, g7, g8⟩ hf
  obtain ⟨css9, ho9, hk9⟩ := hf (7, fun w1 => (PRowG w.heap.size (g3 + 1) 5 44 4 ([simpT addrL cAction act, simpT addrL cTo tt, simpT addrL cMessageID ii] ++ [simpT addrL cRelatesTo (r0 :: rl)])).fact w1 (.slice p7 4 c7)) (by simp) rfl
  have f3 := g2.frozen 3
  have k3 := (g2.cell 3).trans rfl
  have O9 := ((Only.refl g3 w9).set_ 3 (.slice p7 4 c7))
  have R1 := Lib.hid (O9.blk g1 (by omega))
  have R4 := Lib.hid (O9.blk g4 (by omega))
  have R2 := Lib.hid (show Blk (w9.setCell ⟨g3, 3, none⟩ (.slice p7 4 c7)) g3 44 #[.string (bs soapL), .string (bs cHeader), .slice none 0 0, .slice p7 4 c7, .string ⟨#[]⟩] from g2.set_ 3 _)
  have R8 := Lib.hid (g7.setCell (p := ⟨g3, 3, none⟩) (show w.heap.size ≤ g3 by omega) (.slice p7 4 c7))
  have R6 := Lib.hid (O9.owns2 ho9 (by omega))
  have R7 := Lib.hid (hk9.only O9 (fun b hb => by rcases hb with hb | hb; omega; (have := hb.1; omega)))
  rw [show w9.heap.size = (w9.setCell ⟨g3, 3, none⟩ (.slice p7 4 c7)).heap.size from O9.size.symm] at R7
  have HO9S := Lib.hid O9.size
  have S9 := Lib.hid (show wr.heap.size ≤ (w9.setCell ⟨g3, 3, none⟩ (.slice p7 4 c7)).heap.size by rw [O9.size]; exact g8)
  have e3 := (R1.out.cell 3).trans rfl
  have e4 := (R1.out.cell 4).trans rfl
  have e5 := (R1.out.cell 5).trans rfl
  clear hf g1 g2 g4 g6 g7 g8 O9 ho9 hk9 HVL
  have hs9 := S9.out
  have HRW := Lib.hid (HRD.out.keep (Below.keeps R8.out))
  have HHW := Lib.hid (TrXL.keepP (fun a v _ hv => Below.keeps R8.out a v hv) _ _ HH.out)
  have HFL := Lib.hid (show cssH.flatten.length = hds.length * 5 from trxl_flen _ _ HOK.out HH.out)
  have HON := Lib.hid (trxl_ones _ _ HH.out)
  have HVL := Lib.hid (show ∀ g, (Value.slice p7 4 c7).ownBlock = some g → w.heap.size ≤ g ∧ g < (w9.setCell ⟨g3, 3, none⟩ (.slice p7 4 c7)).heap.size from fun g hg => ⟨by have := (R6.out.lt g hg).1; omega, (R6.out.lt g hg).2⟩)
  have hlm := HL.out
  go_wp2_with (at_builtin; refine wpList_appAt (.tmp 52) (.tmp 54) 39 rfl rfl (g3 + 1) 44 i9 (.agg #[.string ⟨#[]⟩, .string ⟨#[]⟩, .slice none 0 0, .slice none 0 0, .string ⟨#[]⟩]) 5 96 Tryz.underlying39 hi9 hy0 hy1 hy2 rfl (by decide) _ _ _ rfl R6.out _ _ _ cssH.flatten rfl HFL.out HRW.out HON.out (by unfold maxLen; omega) (by omega) (by omega) ?_)
  intro v7 w7 ho7 hg7 hat7
  rw [← HO9S.out] at hat7
  clear f3 k3 e3 e4 e5
  generalize (w9.setCell ⟨g3, 3, none⟩ (.slice p7 4 c7)) = wS at *
  have hR7 : rT 0 (g3 + 1) 5 44 (.slice p7 4 c7) 4 0 wS w7 := by rw [rT_at]; exact ⟨⟨_, R6.out⟩, hg7⟩
  obtain ⟨cssA, hoA, hkA⟩ : (PRowG w.heap.size (g3 + 1) 5 44 (4 + hds.length) (([simpT addrL cAction act, simpT addrL cTo tt, simpT addrL cMessageID ii] ++ [simpT addrL cRelatesTo (r0 :: rl)]) ++ hds)).fact w7 v7 := prow_stepG (css := css9) (dss := cssH) (B := wS.heap.size) hg7 hat7 HVL.out (B0 := wS.heap.size) (by omega) (Nat.le_refl _) (by omega) R7.out (TrXL.imp (fun b hb => .inl hb) _ _ HHW.out) (Nat.le_refl _) (by rw [List.flatten_append]; exact ho7)
  obtain ⟨pN, cN, rfl, _, _, _⟩ := owns_rd hoA
  have g1 := rT_blklo hR7 R1.out (by omega)
  have g2 := rT_blklo hR7 R2.out (by omega)
  have g4 := rT_blklo hR7 R4.out (by omega)
  have g7 := rT_below hR7 R8.out (by omega) (by omega)
  have g8 := rT_size hR7
  have f3 := g2.frozen 3
  have k3 := (g2.cell 3).trans rfl
  have O9 := ((Only.refl g3 w7).set_ 3 (.slice pN (4 + hds.length) cN))
  have W1 := Lib.hid (O9.blk g1 (by omega))
  have W4 := Lib.hid (O9.blk g4 (by omega))
  have W2 := Lib.hid (show Blk (w7.setCell ⟨g3, 3, none⟩ (.slice pN (4 + hds.length) cN)) g3 44 #[.string (bs soapL), .string (bs cHeader), .slice none 0 0, .slice pN (4 + hds.length) cN, .string ⟨#[]⟩] from g2.set_ 3 _)
  have W8 := Lib.hid (g7.setCell (p := ⟨g3, 3, none⟩) (show w.heap.size ≤ g3 by omega) (.slice pN (4 + hds.length) cN))
  have WT := Lib.hid (hdr_trx (nm := [soapL, cHeader]) hoA hkA (by (simp only [List.length_append, List.length_cons, List.length_nil]) <;> omega) (by omega) O9)
  have WZ := Lib.hid (show g3 < (w7.setCell ⟨g3, 3, none⟩ (.slice pN (4 + hds.length) cN)).heap.size from W2.out.lt)
  clear ho7 hg7 hat7 hR7 hoA hkA g1 g2 g4 g7 g8 O9 R1 R2 R4 R6 R7 R8 HO9S HRW HHW HFL HON HVL HH HRD HOK hs9 S9 hi9 hy0 hy1 hy2 hlm HL
  go_wp2_with fail
  clear f3 k3
  generalize w7.setCell ⟨g3, 3, none⟩ (.slice pN (4 + hds.length) cN) = wA at *
  refine wp_phi_tail (List.take 6 _) (List.drop 6 _) (List.take_append_drop 6 _).symm (fun w' => (Blk w' w.heap.size 46 #[.string (bs act), .string (bs tt), .string (bs ii), .string (bs []), .string (bs (r0 :: rl)), .slice ph hds.length ch, v0, v1, v2, v3, v4]) ∧ Below wA.heap.size wA w') [(0, PVal (.agg #[.string (bs soapL), .string (bs cBody)])), (3, PBlk wA.heap.size 44 #[v0, v1, v2, v3, v4] 1), (5, PNew (wA.heap.size) 44 #[.string ⟨#[]⟩, .string ⟨#[]⟩, .slice none 0 0, .slice none 0 0, .string ⟨#[]⟩])] [] (by kernel_rfl) (by kernel_rfl) ?_ ?_ ⟨W1.out, ((Below.refl _ wA)).drew⟩ ?_
  · rintro w1' w2' ⟨f1, hIB⟩ hb
    exact ⟨(by first | exact f1.below hb | exact f1.keep (Below.keeps hb) | exact Below.keeps hb _ _ f1 | exact Blk.below f1 hb (Blk.lt f1)), hIB.trans (hb.mono hIB.size)⟩
  · simp only [List.mem_cons, List.not_mem_nil, or_false, forall_eq_or_imp, forall_eq]
    exact ⟨fun _ _ _ _ h' h => PVal_stays _ _ _ _ h' h, fun _ _ _ _ h' h => PBlk_stays h' h, fun _ _ _ _ h' h => PNew_stays h' h⟩
  simp only [List.take_succ_cons, List.take_zero, List.drop_succ_cons, List.drop_zero]
  repeat (first | (refine phi_skipK rfl (fun K hK => ?_); simp only [Act.put, List.setIfInBounds_toArray, List.set_cons_succ, List.set_cons_zero, List.cons_append, List.nil_append]; apply hK; clear hK K) | (refine phi_pureK rfl rfl (fun K hK => ?_); apply Exists.intro; constructor; (focus (rintro w' ⟨f1, hIB⟩; have q6 := (f1.cell 6).trans rfl; have q7 := (f1.cell 7).trans rfl; have q8 := (f1.cell 8).trans rfl; have q9 := (f1.cell 9).trans rfl; have q10 := (f1.cell 10).trans rfl; clear f1 hIB; first | (go_simp; done) | (go_simp; (try go_bits); (try go_simp); rfl) | go_simp)); simp only [Act.put, List.setIfInBounds_toArray, List.set_cons_succ, List.set_cons_zero, List.cons_append, List.nil_append]; apply hK; clear hK K))
  refine phi_partK (PVal (.agg #[.string (bs soapL), .string (bs cBody)])) rfl rfl ⟨_, rfl⟩ ?_ (fun K hK v hv => ?_)
  · rintro w' ⟨f1, hIB⟩ hf
    unfold gives
    clear hf
    go_simp
    refine (soown_any cBody _).mono ?_
    rintro e w'' ⟨rfl, hb⟩
    exact ⟨_, rfl, rfl, trivial, hb⟩
  obtain rfl : v = _ := hv
  simp only [Act.put, List.setIfInBounds_toArray, List.set_cons_succ, List.set_cons_zero, List.nil_append]
  apply hK
  clear hK K
  repeat (first | (refine phi_skipK rfl (fun K hK => ?_); simp only [Act.put, List.setIfInBounds_toArray, List.set_cons_succ, List.set_cons_zero, List.cons_append, List.nil_append]; apply hK; clear hK K) | (refine phi_pureK rfl rfl (fun K hK => ?_); apply Exists.intro; constructor; (focus (rintro w' ⟨f1, hIB⟩; have q6 := (f1.cell 6).trans rfl; have q7 := (f1.cell 7).trans rfl; have q8 := (f1.cell 8).trans rfl; have q9 := (f1.cell 9).trans rfl; have q10 := (f1.cell 10).trans rfl; clear f1 hIB; first | (go_simp; done) | (go_simp; (try go_bits); (try go_simp); rfl) | go_simp)); simp only [Act.put, List.setIfInBounds_toArray, List.set_cons_succ, List.set_cons_zero]; apply hK; clear hK K))
  refine phi_partK (PBlk wA.heap.size 44 #[v0, v1, v2, v3, v4] 1) rfl rfl ⟨_, 0, rfl⟩ ?_ (fun K hK v hv => ?_)
  · rintro w' ⟨f1, hIB⟩ hf
    have HGS := Lib.hid hIB.size
    clear hf f1 hIB
    unfold gives
    go_simp
    refine ⟨⟨_, rfl⟩, fun g hg => ?_, below_alloc1 _ _⟩
    obtain rfl : w'.heap.size = g := by simpa using hg
    exact ⟨HGS.out, Blk.new _ _ _⟩
  obtain ⟨g_3, rfl⟩ := hv
  simp only [Act.put, List.setIfInBounds_toArray, List.set_cons_succ, List.set_cons_zero, List.cons_append, List.nil_append]
  apply hK
  clear hK K
  repeat (first | (refine phi_skipK rfl (fun K hK => ?_); simp only [Act.put, List.setIfInBounds_toArray, List.set_cons_succ, List.set_cons_zero, List.cons_append, List.nil_append]; apply hK; clear hK K) | (refine phi_pureK rfl rfl (fun K hK => ?_); apply Exists.intro; constructor; (focus (rintro w' ⟨f1, hIB⟩; have q6 := (f1.cell 6).trans rfl; have q7 := (f1.cell 7).trans rfl; have q8 := (f1.cell 8).trans rfl; have q9 := (f1.cell 9).trans rfl; have q10 := (f1.cell 10).trans rfl; clear f1 hIB; first | (go_simp; done) | (go_simp; (try go_bits); (try go_simp); rfl) | go_simp)); simp only [Act.put, List.setIfInBounds_toArray, List.set_cons_succ, List.set_cons_zero]; apply hK; clear hK K))
  refine phi_partK (PNew (wA.heap.size) 44 #[.string ⟨#[]⟩, .string ⟨#[]⟩, .slice none 0 0, .slice none 0 0, .string ⟨#[]⟩]) rfl rfl ⟨_, 0, rfl⟩ ?_ (fun K hK v hv => ?_)
  · rintro w' ⟨f1, hIB⟩ hf
    have HGS := Lib.hid hIB.size
    clear hf f1 hIB
    unfold gives
    go_simp
    refine ⟨⟨_, rfl⟩, fun g hg => ?_, below_alloc1 _ _⟩
    obtain rfl : w'.heap.size = g := by simpa using hg
    exact ⟨HGS.out, Blk.new _ _ _⟩
  obtain ⟨g_5, rfl⟩ := hv
  simp only [Act.put, List.setIfInBounds_toArray, List.set_cons_succ, List.set_cons_zero, List.cons_append, List.nil_append]
  apply hK
  clear hK K
  repeat (first | (refine phi_skipK rfl (fun K hK => ?_); simp only [Act.put, List.setIfInBounds_toArray, List.set_cons_succ, List.set_cons_zero, List.cons_append, List.nil_append]; apply hK; clear hK K) | (refine phi_pureK rfl rfl (fun K hK => ?_); apply Exists.intro; constructor; (focus (rintro w' ⟨f1, hIB⟩; have q6 := (f1.cell 6).trans rfl; have q7 := (f1.cell 7).trans rfl; have q8 := (f1.cell 8).trans rfl; have q9 := (f1.cell 9).trans rfl; have q10 := (f1.cell 10).trans rfl; clear f1 hIB; first | (go_simp; done) | (go_simp; (try go_bits); (try go_simp); rfl) | go_simp)); simp only [Act.put, List.setIfInBounds_toArray, List.set_cons_succ, List.set_cons_zero, List.cons_append, List.nil_append]; apply hK; clear hK K))
  refine phi_done ?_
  rintro w5 ⟨f1, hb5⟩ hk9
  have hb_3 := hk9 (3, fun w1 => (PBlk wA.heap.size 44 #[v0, v1, v2, v3, v4] 1).fact w1 (.slice (some ⟨g_3, 0, none⟩) 1 1)) (by simp) g_3 rfl
  have hb_5 := hk9 (5, fun w1 => (PNew (wA.heap.size) 44 #[.string ⟨#[]⟩, .string ⟨#[]⟩, .slice none 0 0, .slice none 0 0, .string ⟨#[]⟩]).fact w1 (.pointer (some ⟨g_5, 0, none⟩))) (by simp) g_5 rfl
  clear hk9
  obtain ⟨hg6, hk6⟩ := hb_3
  obtain ⟨hg5, hk5⟩ := hb_5
  have hz5 := hb5.size
  have hz3 := WZ.out
  have hne : g_3 ≠ g_5 := fun e => by
    unfold Blk at hk6 hk5
    rw [e, hk5] at hk6
    simp at hk6
    exact HNV.out hk6.2.1.symm
  generalize g_3 = gK at *
  generalize g_5 = gB at *
  refine wpList_store (.tmp 4) (.tmp 61) 44 rfl rfl gB 0 _ _ #[.string (bs soapL), .string (bs cBody), .slice none 0 0, .slice (some ⟨gK, 0, none⟩) 1 1, .string ⟨#[]⟩] rfl rfl hk5 (by kernel_rfl) (by simp [Value.oneCell']) (by simp) ?_
  intro w6 hb6 ho6
  rw [putCells_all #[.string ⟨#[]⟩, .string ⟨#[]⟩, .slice none 0 0, .slice none 0 0, .string ⟨#[]⟩] #[.string (bs soapL), .string (bs cBody), .slice none 0 0, .slice (some ⟨gK, 0, none⟩) 1 1, .string ⟨#[]⟩] rfl] at hb6
  have X2 := Lib.hid (ho6.blk (W2.out.below hb5 (by omega)) (by omega))
  have X4 := Lib.hid (ho6.blk (W4.out.below hb5 (by omega)) (by omega))
  have X3 := Lib.hid (ho6.blk hk6 hne)
  have X5 := Lib.hid hb6
  have XT := Lib.hid (TrX.only (TrX.below WT.out hb5) ho6 (fun b hb => by rcases hb with hb | hb; omega; (have := hb.2.1; omega)))
  have X8 := Lib.hid (W8.out.trans ((hb5.mono (by omega)).trans (ho6.below (by omega))))
  have XZ := Lib.hid (show g3 < w6.heap.size ∧ gB < w6.heap.size ∧ gB ≠ w.heap.size + 1 ∧ gK ≠ w.heap.size + 1 from by have := ho6.size; have := hk5.lt; omega)
  clear f1 hb5 hg5 hk5 hg6 hk6 hz5 hz3 hne hb6 ho6 W1 W2 W4 W8 WT WZ
  go_wp2_with fail
  refine wp_phi_tail (List.take 5 _) (List.drop 5 _) (List.take_append_drop 5 _).symm (fun w' => (Blk w' g3 44 #[.string (bs soapL), .string (bs cHeader), .slice none 0 0, .slice pN (4 + hds.length) cN, .string ⟨#[]⟩]) ∧ (Blk w' gB 44 #[.string (bs soapL), .string (bs cBody), .slice none 0 0, .slice (some ⟨gK, 0, none⟩) 1 1, .string ⟨#[]⟩]) ∧ Below w6.heap.size w6 w') [(0, PVal (.agg #[.string (bs soapL), .string (bs cEnvelope)])), (3, PBlk w6.heap.size 44 #[.string (bs soapL), .string (bs cHeader), .slice none 0 0, .slice pN (4 + hds.length) cN, .string ⟨#[]⟩, .string (bs soapL), .string (bs cBody), .slice none 0 0, .slice (some ⟨gK, 0, none⟩) 1 1, .string ⟨#[]⟩] 2)] [] (by kernel_rfl) (by kernel_rfl) ?_ ?_ ⟨X2.out, X5.out, ((Below.refl _ w6)).drew⟩ ?_
  · rintro w1' w2' ⟨f1, f2, hIB⟩ hb
    exact ⟨(by first | exact f1.below hb | exact f1.keep (Below.keeps hb) | exact Below.keeps hb _ _ f1 | exact Blk.below f1 hb (Blk.lt f1)), (by first | exact f2.below hb | exact f2.keep (Below.keeps hb) | exact Below.keeps hb _ _ f2 | exact Blk.below f2 hb (Blk.lt f2)), hIB.trans (hb.mono hIB.size)⟩
  · simp only [List.mem_cons, List.not_mem_nil, or_false, forall_eq_or_imp, forall_eq]
    exact ⟨fun _ _ _ _ h' h => PVal_stays _ _ _ _ h' h, fun _ _ _ _ h' h => PBlk_stays h' h⟩
  simp only [List.take_succ_cons, List.take_zero, List.drop_succ_cons, List.drop_zero]
  repeat (first | (refine phi_skipK rfl (fun K hK => ?_); simp only [Act.put, List.setIfInBounds_toArray, List.set_cons_succ, List.set_cons_zero, List.cons_append, List.nil_append]; apply hK; clear hK K) | (refine phi_pureK rfl rfl (fun K hK => ?_); apply Exists.intro; constructor; (focus (rintro w' ⟨f1, f2, hIB⟩; have q0 := (f1.cell 0).trans rfl; have q1 := (f1.cell 1).trans rfl; have q2 := (f1.cell 2).trans rfl; have q3 := (f1.cell 3).trans rfl; have q4 := (f1.cell 4).trans rfl; have s0 := (f2.cell 0).trans rfl; have s1 := (f2.cell 1).trans rfl; have s2 := (f2.cell 2).trans rfl; have s3 := (f2.cell 3).trans rfl; have s4 := (f2.cell 4).trans rfl; clear f1 f2 hIB; first | (go_simp; done) | (go_simp; (try go_bits); (try go_simp); rfl) | go_simp)); simp only [Act.put, List.setIfInBounds_toArray, List.set_cons_succ, List.set_cons_zero, List.cons_append, List.nil_append]; apply hK; clear hK K))
  refine phi_partK (PVal (.agg #[.string (bs soapL), .string (bs cEnvelope)])) rfl rfl ⟨_, rfl⟩ ?_ (fun K hK v hv => ?_)
  · rintro w' ⟨f1, f2, hIB⟩ hf
    unfold gives
    clear hf
    go_simp
    refine (soown_any cEnvelope _).mono ?_
    rintro e w'' ⟨rfl, hb⟩
    exact ⟨_, rfl, rfl, trivial, hb⟩
  obtain rfl : v = _ := hv
  simp only [Act.put, List.setIfInBounds_toArray, List.set_cons_succ, List.set_cons_zero, List.nil_append]
  apply hK
  clear hK K
  repeat (first | (refine phi_skipK rfl (fun K hK => ?_); simp only [Act.put, List.setIfInBounds_toArray, List.set_cons_succ, List.set_cons_zero, List.cons_append, List.nil_append]; apply hK; clear hK K) | (refine phi_pureK rfl rfl (fun K hK => ?_); apply Exists.intro; constructor; (focus (rintro w' ⟨f1, f2, hIB⟩; have q0 := (f1.cell 0).trans rfl; have q1 := (f1.cell 1).trans rfl; have q2 := (f1.cell 2).trans rfl; have q3 := (f1.cell 3).trans rfl; have q4 := (f1.cell 4).trans rfl; have s0 := (f2.cell 0).trans rfl; have s1 := (f2.cell 1).trans rfl; have s2 := (f2.cell 2).trans rfl; have s3 := (f2.cell 3).trans rfl; have s4 := (f2.cell 4).trans rfl; clear f1 f2 hIB; first | (go_simp; done) | (go_simp; (try go_bits); (try go_simp); rfl) | go_simp)); simp only [Act.put, List.setIfInBounds_toArray, List.set_cons_succ, List.set_cons_zero]; apply hK; clear hK K))
  refine phi_partK (PBlk w6.heap.size 44 #[.string (bs soapL), .string (bs cHeader), .slice none 0 0, .slice pN (4 + hds.length) cN, .string ⟨#[]⟩, .string (bs soapL), .string (bs cBody), .slice none 0 0, .slice (some ⟨gK, 0, none⟩) 1 1, .string ⟨#[]⟩] 2) rfl rfl ⟨_, 0, rfl⟩ ?_ (fun K hK v hv => ?_)
  · rintro w' ⟨f1, f2, hIB⟩ hf
    have HGS := Lib.hid hIB.size
    clear hf f1 f2 hIB
    unfold gives
    go_simp
    refine ⟨⟨_, rfl⟩, fun g hg => ?_, below_alloc1 _ _⟩
    obtain rfl : w'.heap.size = g := by simpa using hg
    exact ⟨HGS.out, Blk.new _ _ _⟩
  obtain ⟨g_3, rfl⟩ := hv
  simp only [Act.put, List.setIfInBounds_toArray, List.set_cons_succ, List.set_cons_zero, List.cons_append, List.nil_append]
  apply hK
  clear hK K
  repeat (first | (refine phi_skipK rfl (fun K hK => ?_); simp only [Act.put, List.setIfInBounds_toArray, List.set_cons_succ, List.set_cons_zero, List.cons_append, List.nil_append]; apply hK; clear hK K) | (refine phi_pureK rfl rfl (fun K hK => ?_); apply Exists.intro; constructor; (focus (rintro w' ⟨f1, f2, hIB⟩; have q0 := (f1.cell 0).trans rfl; have q1 := (f1.cell 1).trans rfl; have q2 := (f1.cell 2).trans rfl; have q3 := (f1.cell 3).trans rfl; have q4 := (f1.cell 4).trans rfl; have s0 := (f2.cell 0).trans rfl; have s1 := (f2.cell 1).trans rfl; have s2 := (f2.cell 2).trans rfl; have s3 := (f2.cell 3).trans rfl; have s4 := (f2.cell 4).trans rfl; clear f1 f2 hIB; first | (go_simp; done) | (go_simp; (try go_bits); (try go_simp); rfl) | go_simp)); simp only [Act.put, List.setIfInBounds_toArray, List.set_cons_succ, List.set_cons_zero]; apply hK; clear hK K))
  refine phi_done ?_
  rintro wB ⟨f1, f2, hbB⟩ hk9
  have hb_3 := hk9 (3, fun w1 => (PBlk w6.heap.size 44 #[.string (bs soapL), .string (bs cHeader), .slice none 0 0, .slice pN (4 + hds.length) cN, .string ⟨#[]⟩, .string (bs soapL), .string (bs cBody), .slice none 0 0, .slice (some ⟨gK, 0, none⟩) 1 1, .string ⟨#[]⟩] 2).fact w1 (.slice (some ⟨g_3, 0, none⟩) 2 2)) (by simp) g_3 rfl
  clear hk9
  obtain ⟨hgT, hkT⟩ := hb_3
  generalize g_3 = gT at *
  have XB := X4.out.below hbB (by have := XZ.out; omega)
  refine wpList_store (.tmp 2) (.tmp 66) 44 rfl rfl (w.heap.size + 1) 0 _ _ #[.string (bs soapL), .string (bs cEnvelope), .slice none 0 0, .slice (some ⟨gT, 0, none⟩) 2 2, .string ⟨#[]⟩] rfl rfl XB (by kernel_rfl) (by simp [Value.oneCell']) (by simp) ?_
  intro w8 hb8 ho8
  rw [putCells_all #[.string ⟨#[]⟩, .string ⟨#[]⟩, .slice none 0 0, .slice none 0 0, .string ⟨#[]⟩] #[.string (bs soapL), .string (bs cEnvelope), .slice none 0 0, .slice (some ⟨gT, 0, none⟩) 2 2, .string ⟨#[]⟩] rfl] at hb8
  have hxz := XZ.out
  have hzB := hbB.size
  have HEAD := Lib.hid (TrX.imp (fun _ _ => trivial) _ _ (TrX.only (TrX.below XT.out hbB) ho8 (fun b hb => by rcases hb with hb | hb; omega; (have := hb.1; omega))) : TrX w8 (fun _ => True) _ _)
  have BROW := Lib.hid (ho8.blk (X3.out.below hbB X3.out.lt) (by omega))
  have TROW := Lib.hid (ho8.blk hkT (by omega))
  have BEL := Lib.hid (X8.out.trans ((hbB.mono (by have := X8.out.size; omega)).trans (ho8.below (by omega))))
  have BDY := Lib.hid (TrX.imp (fun _ _ => trivial) _ _ (TrX.keepP (fun a v _ hv => Below.keeps BEL.out a v hv) _ _ HB.out) : TrX w8 (fun _ => True) bdy [v0, v1, v2, v3, v4])
  have z0 := (hb8.cell 0).trans rfl; have z1 := (hb8.cell 1).trans rfl; have z2 := (hb8.cell 2).trans rfl; have z3 := (hb8.cell 3).trans rfl; have z4 := (hb8.cell 4).trans rfl
  clear hb8 ho8 hxz hzB XB hkT hgT f1 f2 hbB X2 X3 X4 X5 X8 XT XZ HB
  go_wp2_with fail
  refine bodyPost_ret (v := .agg #[.string (bs soapL), .string (bs cEnvelope), .slice none 0 0, .slice (some ⟨gT, 0, none⟩) 2 2, .string ⟨#[]⟩]) (by simp [results, Tryz.results76, go_sem, z0, z1, z2, z3, z4]) rfl ?_
  refine ⟨gT, rfl, TrX.plain (P := fun _ => True) _ _ ?_, BEL.out⟩
  exact node_trxP (P := fun _ => True) (nm := [soapL, cEnvelope]) (tx := []) (css := [_, _]) trivial TROW.out ⟨_, _, rfl, HEAD.out, _, _, rfl, node_trxP (P := fun _ => True) (nm := [soapL, cBody]) (tx := []) (css := [[v0, v1, v2, v3, v4]]) (n := 1) trivial BROW.out (TrXL.one BDY.out) rfl (by decide), rfl⟩ rfl (by decide)
theorem tree25_10 (act tt ii : List UInt8) (f0 : UInt8) (fl : List UInt8) (hds : List Tr) (bdy : Tr) (ph : Option Addr) (ch : Nat) (cssH : List (List Value)) (v0 v1 v2 v3 v4 : Value) (w : World) (hnv : v1 ≠ .string ⟨#[]⟩) (hl : hds.length ≤ 1000000) (hok : ∀ x ∈ hds, x.nm.length = 2) (hrd : Rd w ph cssH.flatten) (hH : TrXL w (fun b => b < w.heap.size) hds cssH) (hB : TrX w (fun b => b < w.heap.size) bdy [v0, v1, v2, v3, v4]) :
    Calls Tryz.prog 76 #[.agg #[.string (bs act), .string (bs tt), .string (bs ii), .string (bs (f0 :: fl)), .string (bs []), .slice ph hds.length ch, v0, v1, v2, v3, v4]] w (TreeR ⟨act, tt, ii, (f0 :: fl), [], hds, bdy⟩ w) := by
  obtain ⟨i9, hi9, hy0, hy1, hy2⟩ := info_parts elem25_info
  have HNV := Lib.hid hnv; have HL := Lib.hid hl; have HOK := Lib.hid hok; have HRD := Lib.hid hrd; have HH := Lib.hid hH; have HB := Lib.hid hB
  have hba := below_alloc (below_alloc1 w (.cells #[.string (bs act), .string (bs tt), .string (bs ii), .string (bs (f0 :: fl)), .string (bs []), .slice ph hds.length ch, v0, v1, v2, v3, v4] 46)) (.cells #[.string ⟨#[]⟩, .string ⟨#[]⟩, .slice none 0 0, .slice none 0 0, .string ⟨#[]⟩] 44)
  have hn1 := (Blk.new w 46 #[.string (bs act), .string (bs tt), .string (bs ii), .string (bs (f0 :: fl)), .string (bs []), .slice ph hds.length ch, v0, v1, v2, v3, v4]).alloc (.cells #[.string ⟨#[]⟩, .string ⟨#[]⟩, .slice none 0 0, .slice none 0 0, .string ⟨#[]⟩] 44)
  have hn2 := Blk.new (w.alloc (.cells #[.string (bs act), .string (bs tt), .string (bs ii), .string (bs (f0 :: fl)), .string (bs []), .slice ph hds.length ch, v0, v1, v2, v3, v4] 46)) 44 #[.string ⟨#[]⟩, .string ⟨#[]⟩, .slice none 0 0, .slice none 0 0, .string ⟨#[]⟩]
  rw [World.size_alloc] at hn2
  have HBA := Lib.hid hba; have HN1 := Lib.hid hn1; have HN2 := Lib.hid hn2
  clear hnv hba hn1 hn2 hl hok hrd hH hB
  go_enter Tryz.func76, Tryz.ntmps76
  go_wp2_with fail
  generalize (w.alloc (.cells #[.string (bs act), .string (bs tt), .string (bs ii), .string (bs (f0 :: fl)), .string (bs []), .slice ph hds.length ch, v0, v1, v2, v3, v4] 46)).alloc (.cells #[.string ⟨#[]⟩, .string ⟨#[]⟩, .slice none 0 0, .slice none 0 0, .string ⟨#[]⟩] 44) = wa at *
  refine (soown_any cHeader wa).mono ?_
  rintro e w1 ⟨rfl, hb1⟩
  unfold snmV
  have hs1 := HN2.out.lt
  have hz1 := hb1.size
  have hal := below_alloc1 w1 (.cells #[.string (bs soapL), .string (bs cHeader), .slice none 0 0, .slice none 0 0, .string ⟨#[]⟩] 44)
  have HBW := Lib.hid (HBA.out.trans ((hb1.mono HBA.out.size).trans (hal.mono (by have := HBA.out.size; omega))))
  have G1 := Lib.hid ((HN1.out.below hb1 (by omega)).alloc (.cells #[.string (bs soapL), .string (bs cHeader), .slice none 0 0, .slice none 0 0, .string ⟨#[]⟩] 44))
  have G4 := Lib.hid ((HN2.out.below hb1 (by omega)).alloc (.cells #[.string (bs soapL), .string (bs cHeader), .slice none 0 0, .slice none 0 0, .string ⟨#[]⟩] 44))
  have G2 := Lib.hid (Blk.new w1 44 #[.string (bs soapL), .string (bs cHeader), .slice none 0 0, .slice none 0 0, .string ⟨#[]⟩])
  have HSZ := Lib.hid (show w.heap.size + 1 < w1.heap.size by omega)
  clear hb1 hs1 hz1 hal HN1 HN2 HBA
  go_wp2_with fail
  generalize hg3 : w1.heap.size = g3 at *
  have HS3 := Lib.hid (show g3 + 1 ≤ (w1.alloc (.cells #[.string (bs soapL), .string (bs cHeader), .slice none 0 0, .slice none 0 0, .string ⟨#[]⟩] 44)).heap.size by rw [World.size_alloc]; omega)
  generalize w1.alloc (.cells #[.string (bs soapL), .string (bs cHeader), .slice none 0 0, .slice none 0 0, .string ⟨#[]⟩] 44) = wr at *
  have G8 := HBW
  have hsz := HSZ.out; have hs3 := HS3.out
  refine wp_phiU_tail (List.take 16 _) (List.drop 16 _) (List.take_append_drop 16 _).symm (rT 15 (g3 + 1) 5 44 (.slice none 0 0) 0) (fun w' => Blk w' w.heap.size 46 #[.string (bs act), .string (bs tt), .string (bs ii), .string (bs (f0 :: fl)), .string (bs []), .slice ph hds.length ch, v0, v1, v2, v3, v4] ∧ Blk w' g3 44 #[.string (bs soapL), .string (bs cHeader), .slice none 0 0, .slice none 0 0, .string ⟨#[]⟩] ∧ Blk w' (w.heap.size + 1) 44 #[.string ⟨#[]⟩, .string ⟨#[]⟩, .slice none 0 0, .slice none 0 0, .string ⟨#[]⟩] ∧ Below w.heap.size w w' ∧ wr.heap.size ≤ w'.heap.size) [(2, PVal (.agg #[.string (bs addrL), .string (bs cAction)])), (5, PKidL (fun v => ∃ g, v = Value.agg #[.string (bs addrL), .string (bs cAction), .slice none 0 0, .slice (some ⟨g, 0, none⟩) 1 1, .string ⟨#[]⟩]) w.heap.size wr.heap.size (simpT addrL cAction act)), (6, PVal (.agg #[.string (bs addrL), .string (bs cTo)])), (9, PKidL (fun v => ∃ g, v = Value.agg #[.string (bs addrL), .string (bs cTo), .slice none 0 0, .slice (some ⟨g, 0, none⟩) 1 1, .string ⟨#[]⟩]) w.heap.size wr.heap.size (simpT addrL cTo tt)), (10, PVal (.agg #[.string (bs addrL), .string (bs cMessageID)])), (13, PKidL (fun v => ∃ g, v = Value.agg #[.string (bs addrL), .string (bs cMessageID), .slice none 0 0, .slice (some ⟨g, 0, none⟩) 1 1, .string ⟨#[]⟩]) w.heap.size wr.heap.size (simpT addrL cMessageID ii)), (14, PSl w.heap.size wr.heap.size 44 3 [simpT addrL cAction act, simpT addrL cTo tt, simpT addrL cMessageID ii]), (15, PRowG w.heap.size (g3 + 1) 5 44 3 ([] ++ [simpT addrL cAction act, simpT addrL cTo tt, simpT addrL cMessageID ii]))] [(14, [5, 9, 13]), (15, [2, 5, 6, 9, 10, 13, 14])] [] [] (by kernel_rfl) (by kernel_rfl) ?_ ?_ ?_ ?_ ?_ ?_
  · rintro p _ w1' w2' ⟨g1, g2, g4, g7, g8⟩ hR
    exact ⟨rT_blklo hR g1 (by omega), rT_blklo hR g2 (by omega), rT_blklo hR g4 (by omega), rT_below hR g7 (by omega) (by omega), Nat.le_trans g8 (rT_size hR)⟩
  · intro p hp p' hp' hne hks hns w1' w2' v hI hR hf
    have hv : ∀ g, (Value.slice none 0 0).ownBlock = some g → w.heap.size ≤ g ∧ g < wr.heap.size := fun g hg => by cases hg
    simp only [List.mem_cons, List.not_mem_nil, or_false] at hp hp'
    rcases hp with rfl | rfl | rfl | rfl | rfl | rfl | rfl | rfl
    · trivial
    · exact PKidL_stays hR hv hf
    · trivial
    · exact PKidL_stays hR hv hf
    · trivial
    · exact PKidL_stays hR hv hf
    · exact PSl_stays hR hv hf
    · rcases hp' with rfl | rfl | rfl | rfl | rfl | rfl | rfl | rfl
      · exact absurd (show (2 : Nat) ∈ needs [(14, [5, 9, 13]), (15, [2, 5, 6, 9, 10, 13, 14])] 15 by decide) hns
      · exact absurd (show (5 : Nat) ∈ needs [(14, [5, 9, 13]), (15, [2, 5, 6, 9, 10, 13, 14])] 15 by decide) hns
      · exact absurd (show (6 : Nat) ∈ needs [(14, [5, 9, 13]), (15, [2, 5, 6, 9, 10, 13, 14])] 15 by decide) hns
      · exact absurd (show (9 : Nat) ∈ needs [(14, [5, 9, 13]), (15, [2, 5, 6, 9, 10, 13, 14])] 15 by decide) hns
      · exact absurd (show (10 : Nat) ∈ needs [(14, [5, 9, 13]), (15, [2, 5, 6, 9, 10, 13, 14])] 15 by decide) hns
      · exact absurd (show (13 : Nat) ∈ needs [(14, [5, 9, 13]), (15, [2, 5, 6, 9, 10, 13, 14])] 15 by decide) hns
      · exact absurd (show (14 : Nat) ∈ needs [(14, [5, 9, 13]), (15, [2, 5, 6, 9, 10, 13, 14])] 15 by decide) hns
      · exact absurd rfl hne
  · intro p hp u hu hne w1' w2' hI hR hf
    cases hu
  · intro u hu
    cases hu
  · exact ⟨G1.out, G2.out, G4.out, G8.out.drew, Nat.le_refl _⟩
  simp only [List.take_succ_cons, List.take_zero, List.drop_succ_cons, List.drop_zero]
  clear G1 G2 G4 G8
  repeat (first | (refine phiU_skipK rfl (fun K hK => ?_); simp only [Act.put, List.setIfInBounds_toArray, List.set_cons_succ, List.set_cons_zero, List.cons_append, List.nil_append]; apply hK; clear hK K) | (refine phiU_pureK rfl rfl (fun K hK => ?_); apply Exists.intro; constructor; (focus (rintro w' ⟨g1, g2, g4, g7, g8⟩; have e0 := (g1.cell 0).trans rfl; have e1 := (g1.cell 1).trans rfl; have e2 := (g1.cell 2).trans rfl; have k3 := (g2.cell 3).trans rfl; clear g1 g2 g4 g7 g8; first | (go_simp; done) | (go_simp; (try go_bits); (try go_simp); rfl) | go_simp)); simp only [Act.put, List.setIfInBounds_toArray, List.set_cons_succ, List.set_cons_zero]; apply hK; clear hK K))
  refine phiU_partK (PVal (.agg #[.string (bs addrL), .string (bs cAction)])) rfl rfl ⟨_, rfl⟩ ?_ (fun K hK v hv => ?_)
  · rintro w' ⟨g1, g2, g4, g7, g8⟩ hf hu
    clear hf hu g1 g2 g4 g7 g8
    unfold gives
    go_simp
    refine (saddr_any cAction w').mono ?_
    rintro e w'' ⟨rfl, hb⟩
    exact ⟨_, rfl, rfl, trivial, by rw [rT_o (by decide)]; exact hb⟩
  obtain rfl : v = _ := hv
  simp only [Act.put, List.setIfInBounds_toArray, List.set_cons_succ, List.set_cons_zero, List.nil_append]
  apply hK
  clear hK K
  repeat (first | (refine phiU_skipK rfl (fun K hK => ?_); simp only [Act.put, List.setIfInBounds_toArray, List.set_cons_succ, List.set_cons_zero, List.cons_append, List.nil_append]; apply hK; clear hK K) | (refine phiU_pureK rfl rfl (fun K hK => ?_); apply Exists.intro; constructor; (focus (rintro w' ⟨g1, g2, g4, g7, g8⟩; have e0 := (g1.cell 0).trans rfl; have e1 := (g1.cell 1).trans rfl; have e2 := (g1.cell 2).trans rfl; have k3 := (g2.cell 3).trans rfl; clear g1 g2 g4 g7 g8; first | (go_simp; done) | (go_simp; (try go_bits); (try go_simp); rfl) | go_simp)); simp only [Act.put, List.setIfInBounds_toArray, List.set_cons_succ, List.set_cons_zero]; apply hK; clear hK K))
  refine phiU_partK (PKidL (fun v => ∃ g, v = Value.agg #[.string (bs addrL), .string (bs cAction), .slice none 0 0, .slice (some ⟨g, 0, none⟩) 1 1, .string ⟨#[]⟩]) w.heap.size wr.heap.size (simpT addrL cAction act)) rfl rfl ⟨_, 0, rfl⟩ ?_ (fun K hK v hv => ?_)
  · rintro w' ⟨g1, g2, g4, g7, g8⟩ hf hu
    have HG := Lib.hid g8
    clear hf hu g1 g2 g4 g7 g8
    unfold gives
    go_simp
    refine (simple_any addrL cAction act w').mono ?_
    rintro e w'' ⟨g, rfl, hg, hlt, hk, hb⟩
    exact ⟨_, rfl, ⟨g, rfl⟩, ⟨_, w''.heap.size, rfl, simp_trx (by have := HG.out; omega) hk, Nat.le_refl _⟩, by rw [rT_o (by decide)]; exact hb⟩
  obtain ⟨q5, rfl⟩ := hv
  simp only [Act.put, List.setIfInBounds_toArray, List.set_cons_succ, List.set_cons_zero, List.cons_append, List.nil_append]
  apply hK
  clear hK K
  repeat (first | (refine phiU_skipK rfl (fun K hK => ?_); simp only [Act.put, List.setIfInBounds_toArray, List.set_cons_succ, List.set_cons_zero, List.cons_append, List.nil_append]; apply hK; clear hK K) | (refine phiU_pureK rfl rfl (fun K hK => ?_); apply Exists.intro; constructor; (focus (rintro w' ⟨g1, g2, g4, g7, g8⟩; have e0 := (g1.cell 0).trans rfl; have e1 := (g1.cell 1).trans rfl; have e2 := (g1.cell 2).trans rfl; have k3 := (g2.cell 3).trans rfl; clear g1 g2 g4 g7 g8; first | (go_simp; done) | (go_simp; (try go_bits); (try go_simp); rfl) | go_simp)); simp only [Act.put, List.setIfInBounds_toArray, List.set_cons_succ, List.set_cons_zero, List.cons_append, List.nil_append]; apply hK; clear hK K))
  refine phiU_partK (PVal (.agg #[.string (bs addrL), .string (bs cTo)])) rfl rfl ⟨_, rfl⟩ ?_ (fun K hK v hv => ?_)
  · rintro w' ⟨g1, g2, g4, g7, g8⟩ hf hu
    clear hf hu g1 g2 g4 g7 g8
    unfold gives
    go_simp
    refine (saddr_any cTo w').mono ?_
    rintro e w'' ⟨rfl, hb⟩
    exact ⟨_, rfl, rfl, trivial, by rw [rT_o (by decide)]; exact hb⟩
  obtain rfl : v = _ := hv
  simp only [Act.put, List.setIfInBounds_toArray, List.set_cons_succ, List.set_cons_zero, List.cons_append, List.nil_append]
  apply hK
  clear hK K
  repeat (first | (refine phiU_skipK rfl (fun K hK => ?_); simp only [Act.put, List.setIfInBounds_toArray, List.set_cons_succ, List.set_cons_zero, List.cons_append, List.nil_append]; apply hK; clear hK K) | (refine phiU_pureK rfl rfl (fun K hK => ?_); apply Exists.intro; constructor; (focus (rintro w' ⟨g1, g2, g4, g7, g8⟩; have e0 := (g1.cell 0).trans rfl; have e1 := (g1.cell 1).trans rfl; have e2 := (g1.cell 2).trans rfl; have k3 := (g2.cell 3).trans rfl; clear g1 g2 g4 g7 g8; first | (go_simp; done) | (go_simp; (try go_bits); (try go_simp); rfl) | go_simp)); simp only [Act.put, List.setIfInBounds_toArray, List.set_cons_succ, List.set_cons_zero]; apply hK; clear hK K))
  refine phiU_partK (PKidL (fun v => ∃ g, v = Value.agg #[.string (bs addrL), .string (bs cTo), .slice none 0 0, .slice (some ⟨g, 0, none⟩) 1 1, .string ⟨#[]⟩]) w.heap.size wr.heap.size (simpT addrL cTo tt)) rfl rfl ⟨_, 0, rfl⟩ ?_ (fun K hK v hv => ?_)
  · rintro w' ⟨g1, g2, g4, g7, g8⟩ hf hu
    have HG := Lib.hid g8
    clear hf hu g1 g2 g4 g7 g8
    unfold gives
    go_simp
    refine (simple_any addrL cTo tt w').mono ?_
    rintro e w'' ⟨g, rfl, hg, hlt, hk, hb⟩
    exact ⟨_, rfl, ⟨g, rfl⟩, ⟨_, w''.heap.size, rfl, simp_trx (by have := HG.out; omega) hk, Nat.le_refl _⟩, by rw [rT_o (by decide)]; exact hb⟩
  obtain ⟨q9, rfl⟩ := hv
  simp only [Act.put, List.setIfInBounds_toArray, List.set_cons_succ, List.set_cons_zero, List.cons_append, List.nil_append]
  apply hK
  clear hK K
  repeat (first | (refine phiU_skipK rfl (fun K hK => ?_); simp only [Act.put, List.setIfInBounds_toArray, List.set_cons_succ, List.set_cons_zero, List.cons_append, List.nil_append]; apply hK; clear hK K) | (refine phiU_pureK rfl rfl (fun K hK => ?_); apply Exists.intro; constructor; (focus (rintro w' ⟨g1, g2, g4, g7, g8⟩; have e0 := (g1.cell 0).trans rfl; have e1 := (g1.cell 1).trans rfl; have e2 := (g1.cell 2).trans rfl; have k3 := (g2.cell 3).trans rfl; clear g1 g2 g4 g7 g8; first | (go_simp; done) | (go_simp; (try go_bits); (try go_simp); rfl) | go_simp)); simp only [Act.put, List.setIfInBounds_toArray, List.set_cons_succ, List.set_cons_zero, List.cons_append, List.nil_append]; apply hK; clear hK K))
  refine phiU_partK (PVal (.agg #[.string (bs addrL), .string (bs cMessageID)])) rfl rfl ⟨_, rfl⟩ ?_ (fun K hK v hv => ?_)
  · rintro w' ⟨g1, g2, g4, g7, g8⟩ hf hu
    clear hf hu g1 g2 g4 g7 g8
    unfold gives
    go_simp
    refine (saddr_any cMessageID w').mono ?_
    rintro e w'' ⟨rfl, hb⟩
    exact ⟨_, rfl, rfl, trivial, by rw [rT_o (by decide)]; exact hb⟩
  obtain rfl : v = _ := hv
  simp only [Act.put, List.setIfInBounds_toArray, List.set_cons_succ, List.set_cons_zero, List.cons_append, List.nil_append]
  apply hK
  clear hK K
  repeat (first | (refine phiU_skipK rfl (fun K hK => ?_); simp only [Act.put, List.setIfInBounds_toArray, List.set_cons_succ, List.set_cons_zero, List.cons_append, List.nil_append]; apply hK; clear hK K) | (refine phiU_pureK rfl rfl (fun K hK => ?_); apply Exists.intro; constructor; (focus (rintro w' ⟨g1, g2, g4, g7, g8⟩; have e0 := (g1.cell 0).trans rfl; have e1 := (g1.cell 1).trans rfl; have e2 := (g1.cell 2).trans rfl; have k3 := (g2.cell 3).trans rfl; clear g1 g2 g4 g7 g8; first | (go_simp; done) | (go_simp; (try go_bits); (try go_simp); rfl) | go_simp)); simp only [Act.put, List.setIfInBounds_toArray, List.set_cons_succ, List.set_cons_zero]; apply hK; clear hK K))
  refine phiU_partK (PKidL (fun v => ∃ g, v = Value.agg #[.string (bs addrL), .string (bs cMessageID), .slice none 0 0, .slice (some ⟨g, 0, none⟩) 1 1, .string ⟨#[]⟩]) w.heap.size wr.heap.size (simpT addrL cMessageID ii)) rfl rfl ⟨_, 0, rfl⟩ ?_ (fun K hK v hv => ?_)
  · rintro w' ⟨g1, g2, g4, g7, g8⟩ hf hu
    have HG := Lib.hid g8
    clear hf hu g1 g2 g4 g7 g8
    unfold gives
    go_simp
    refine (simple_any addrL cMessageID ii w').mono ?_
    rintro e w'' ⟨g, rfl, hg, hlt, hk, hb⟩
    exact ⟨_, rfl, ⟨g, rfl⟩, ⟨_, w''.heap.size, rfl, simp_trx (by have := HG.out; omega) hk, Nat.le_refl _⟩, by rw [rT_o (by decide)]; exact hb⟩
  obtain ⟨q13, rfl⟩ := hv
  simp only [Act.put, List.setIfInBounds_toArray, List.set_cons_succ, List.set_cons_zero, List.cons_append, List.nil_append]
  apply hK
  clear hK K
  repeat (first | (refine phiU_skipK rfl (fun K hK => ?_); simp only [Act.put, List.setIfInBounds_toArray, List.set_cons_succ, List.set_cons_zero, List.cons_append, List.nil_append]; apply hK; clear hK K) | (refine phiU_pureK rfl rfl (fun K hK => ?_); apply Exists.intro; constructor; (focus (rintro w' ⟨g1, g2, g4, g7, g8⟩; have e0 := (g1.cell 0).trans rfl; have e1 := (g1.cell 1).trans rfl; have e2 := (g1.cell 2).trans rfl; have k3 := (g2.cell 3).trans rfl; clear g1 g2 g4 g7 g8; first | (go_simp; done) | (go_simp; (try go_bits); (try go_simp); rfl) | go_simp)); simp only [Act.put, List.setIfInBounds_toArray, List.set_cons_succ, List.set_cons_zero, List.cons_append, List.nil_append]; apply hK; clear hK K))
  refine phiU_partK (PSl w.heap.size wr.heap.size 44 3 [simpT addrL cAction act, simpT addrL cTo tt, simpT addrL cMessageID ii]) rfl rfl ⟨_, 0, rfl⟩ ?_ (fun K hK v hv => ?_)
  · rintro w' ⟨g1, g2, g4, g7, g8⟩ hf hu
    have f5 := hf (5, fun w1 => (PKidL (fun v => ∃ g, v = Value.agg #[.string (bs addrL), .string (bs cAction), .slice none 0 0, .slice (some ⟨g, 0, none⟩) 1 1, .string ⟨#[]⟩]) w.heap.size wr.heap.size (simpT addrL cAction act)).fact w1 (.agg #[.string (bs addrL), .string (bs cAction), .slice none 0 0, .slice (some ⟨q5, 0, none⟩) 1 1, .string ⟨#[]⟩])) (by simp) (List.contains_iff_mem.1 rfl) rfl
    have f9 := hf (9, fun w1 => (PKidL (fun v => ∃ g, v = Value.agg #[.string (bs addrL), .string (bs cTo), .slice none 0 0, .slice (some ⟨g, 0, none⟩) 1 1, .string ⟨#[]⟩]) w.heap.size wr.heap.size (simpT addrL cTo tt)).fact w1 (.agg #[.string (bs addrL), .string (bs cTo), .slice none 0 0, .slice (some ⟨q9, 0, none⟩) 1 1, .string ⟨#[]⟩])) (by simp) (List.contains_iff_mem.1 rfl) rfl
    have f13 := hf (13, fun w1 => (PKidL (fun v => ∃ g, v = Value.agg #[.string (bs addrL), .string (bs cMessageID), .slice none 0 0, .slice (some ⟨g, 0, none⟩) 1 1, .string ⟨#[]⟩]) w.heap.size wr.heap.size (simpT addrL cMessageID ii)).fact w1 (.agg #[.string (bs addrL), .string (bs cMessageID), .slice none 0 0, .slice (some ⟨q13, 0, none⟩) 1 1, .string ⟨#[]⟩])) (by simp) (List.contains_iff_mem.1 rfl) rfl
    have F5 := Lib.hid f5
    have F9 := Lib.hid f9
    have F13 := Lib.hid f13
    have HG := Lib.hid g8
    clear hf hu f5 f9 f13 g1 g2 g4 g7 g8
    unfold gives
    go_simp
    refine ⟨⟨_, rfl⟩, fun g hg => ?_, by rw [rT_o (by decide)]; exact below_alloc1 _ _⟩
    obtain rfl : w'.heap.size = g := by simpa using hg
    obtain ⟨c5, B5, e5, t5, b5⟩ := F5.out
    injection e5 with e5
    have e5 := congrArg Array.toList e5
    dsimp only at e5
    subst e5
    obtain ⟨c9, B9, e9, t9, b9⟩ := F9.out
    injection e9 with e9
    have e9 := congrArg Array.toList e9
    dsimp only at e9
    subst e9
    obtain ⟨c13, B13, e13, t13, b13⟩ := F13.out
    injection e13 with e13
    have e13 := congrArg Array.toList e13
    dsimp only at e13
    subst e13
    refine ⟨HG.out, [[.string (bs addrL), .string (bs cAction), .slice none 0 0, .slice (some ⟨q5, 0, none⟩) 1 1, .string ⟨#[]⟩], [.string (bs addrL), .string (bs cTo), .slice none 0 0, .slice (some ⟨q9, 0, none⟩) 1 1, .string ⟨#[]⟩], [.string (bs addrL), .string (bs cMessageID), .slice none 0 0, .slice (some ⟨q13, 0, none⟩) 1 1, .string ⟨#[]⟩]], _, Blk.new _ _ _, ?_, Nat.le_refl _⟩
    exact ⟨_, _, rfl, t5.high (below_alloc1 _ _) b5, ⟨_, _, rfl, t9.high (below_alloc1 _ _) b9, ⟨_, _, rfl, t13.high (below_alloc1 _ _) b13, rfl⟩⟩⟩
  obtain ⟨y14, rfl⟩ := hv
  simp only [Act.put, List.setIfInBounds_toArray, List.set_cons_succ, List.set_cons_zero, List.cons_append, List.nil_append]
  apply hK
  clear hK K
  refine phiU_partK (PRowG w.heap.size (g3 + 1) 5 44 3 ([] ++ [simpT addrL cAction act, simpT addrL cTo tt, simpT addrL cMessageID ii])) rfl rfl ⟨_, none, 0, rfl⟩ ?_ (fun K hK v hv => ?_)
  · rintro w' ⟨g1, g2, g4, g7, g8⟩ hf hu
    have f4 := hf (14, fun w1 => (PSl w.heap.size wr.heap.size 44 3 [simpT addrL cAction act, simpT addrL cTo tt, simpT addrL cMessageID ii]).fact w1 (.slice (some ⟨y14, 0, none⟩) 3 3)) (by simp) (List.contains_iff_mem.1 rfl) rfl y14 rfl
    obtain ⟨h4b, css9, B, b4, t4, l4⟩ := f4
    have hu8 : w'.ownsRow (g3 + 1) 44 5 (.slice none 0 0) 0 [] := ⟨rfl, .inl ⟨rfl, rfl⟩⟩
    clear hf hu
    refine gives_appAt (.tmp 8) (.tmp 21) 39 rfl (g3 + 1) 44 i9 (.agg #[.string ⟨#[]⟩, .string ⟨#[]⟩, .slice none 0 0, .slice none 0 0, .string ⟨#[]⟩]) 5 96 Tryz.underlying39 hi9 hy0 hy1 hy2 rfl (by decide) _ _ _ rfl hu8 _ _ _ css9.flatten rfl (by rw [trxl_flen _ _ (k := 2) (by simp [simpT, Tr.nm]) t4]; rfl) (rd_blk b4) (trxl_ones _ _ t4) (by unfold maxLen; omega) (by omega) (by omega) ?_
    intro v2 w2 ho2 hg2 hat2
    obtain ⟨p2, c2, rfl, _, _, _⟩ := owns_rd ho2
    refine ⟨⟨p2, c2, rfl⟩, prow_stepG (css := []) hg2 hat2 (fun g hg => by cases hg) (B0 := wr.heap.size) (by omega) (by omega) (by omega) rfl t4 l4 (by rw [List.flatten_append]; exact ho2), ?_⟩
    rw [rT_at]
    exact ⟨⟨_, hu8⟩, hg2⟩
  obtain ⟨p15, c15, rfl⟩ := hv
  simp only [Act.put, List.setIfInBounds_toArray, List.set_cons_succ, List.set_cons_zero, List.cons_append, List.nil_append]
  apply hK
  clear hK K
  repeat (first | (refine phiU_skipK rfl (fun K hK => ?_); simp only [Act.put, List.setIfInBounds_toArray, List.set_cons_succ, List.set_cons_zero, List.cons_append, List.nil_append]; apply hK; clear hK K) | (refine phiU_pureK rfl rfl (fun K hK => ?_); apply Exists.intro; constructor; (focus (rintro w' ⟨g1, g2, g4, g7, g8⟩; have e0 := (g1.cell 0).trans rfl; have e1 := (g1.cell 1).trans rfl; have e2 := (g1.cell 2).trans rfl; have k3 := (g2.cell 3).trans rfl; clear g1 g2 g4 g7 g8; first | (go_simp; done) | (go_simp; (try go_bits); (try go_simp); rfl) | go_simp)); simp only [Act.put, List.setIfInBounds_toArray, List.set_cons_succ, List.set_cons_zero, List.cons_append, List.nil_append]; apply hK; clear hK K))
  refine phiU_done ?_
  rintro w9 ⟨g1, g2, g4, g7, g8⟩ hf
  obtain ⟨css9, ho9, hk9⟩ := hf (15, fun w1 => (PRowG w.heap.size (g3 + 1) 5 44 3 ([] ++ [simpT addrL cAction act, simpT addrL cTo tt, simpT addrL cMessageID ii])).fact w1 (.slice p15 3 c15)) (by simp) rfl
  have f3 := g2.frozen 3
  have k3 := (g2.cell 3).trans rfl
  have O9 := ((Only.refl g3 w9).set_ 3 (.slice p15 3 c15))
  have R1 := Lib.hid (O9.blk g1 (by omega))
  have R4 := Lib.hid (O9.blk g4 (by omega))
  have R2 := Lib.hid (show Blk (w9.setCell ⟨g3, 3, none⟩ (.slice p15 3 c15)) g3 44 #[.string (bs soapL), .string (bs cHeader), .slice none 0 0, .slice p15 3 c15, .string ⟨#[]⟩] from g2.set_ 3 _)
  have R8 := Lib.hid (g7.setCell (p := ⟨g3, 3, none⟩) (show w.heap.size ≤ g3 by omega) (.slice p15 3 c15))
  have R6 := Lib.hid (O9.owns2 ho9 (by omega))
  have R7 := Lib.hid (hk9.only O9 (fun b hb => by rcases hb with hb | hb; omega; (have := hb.1; omega)))
  rw [show w9.heap.size = (w9.setCell ⟨g3, 3, none⟩ (.slice p15 3 c15)).heap.size from O9.size.symm] at R7
  have HO9S := Lib.hid O9.size
  have S9 := Lib.hid (show wr.heap.size ≤ (w9.setCell ⟨g3, 3, none⟩ (.slice p15 3 c15)).heap.size by rw [O9.size]; exact g8)
  have e3 := (R1.out.cell 3).trans rfl
  have e4 := (R1.out.cell 4).trans rfl
  have e5 := (R1.out.cell 5).trans rfl
  clear hf g1 g2 g4 g7 g8 O9 ho9 hk9
  go_wp2_with fail
  clear f3 k3 e3 e4 e5
  generalize w9.setCell ⟨g3, 3, none⟩ (.slice p15 3 c15) = wN at *
  have hsz9 := S9.out
  have HS4 := Lib.hid (show g3 + 1 ≤ wN.heap.size by omega)
  clear hsz9 hs3 HS3 S9 HO9S
  clear HBW wr
  have G1 := R1; have G2 := R2; have G4 := R4; have G6 := R6; have G7 := R7; have G8 := R8; have HS3 := HS4
  clear R1 R2 R4 R6 R7 R8 HS4
  generalize css9 = css at *
  generalize wN = wr at *
  have HVL := Lib.hid (show ∀ g, (Value.slice p15 3 c15).ownBlock = some g → w.heap.size ≤ g ∧ g < wr.heap.size from fun g hg => ⟨by have := (G6.out.lt g hg).1; omega, (G6.out.lt g hg).2⟩)
  have hs3 := HS3.out
  refine wp_phiU_tail (List.take 11 _) (List.drop 11 _) (List.take_append_drop 11 _).symm (rT 10 (g3 + 1) 5 44 (.slice p15 3 c15) 3) (fun w' => Blk w' w.heap.size 46 #[.string (bs act), .string (bs tt), .string (bs ii), .string (bs (f0 :: fl)), .string (bs []), .slice ph hds.length ch, v0, v1, v2, v3, v4] ∧ Blk w' g3 44 #[.string (bs soapL), .string (bs cHeader), .slice none 0 0, .slice p15 3 c15, .string ⟨#[]⟩] ∧ Blk w' (w.heap.size + 1) 44 #[.string ⟨#[]⟩, .string ⟨#[]⟩, .slice none 0 0, .slice none 0 0, .string ⟨#[]⟩] ∧ TrXL w' (BtL w.heap.size (g3 + 1) wr.heap.size (Value.slice p15 3 c15).ownBlock) ([simpT addrL cAction act, simpT addrL cTo tt, simpT addrL cMessageID ii]) css ∧ Below w.heap.size w w' ∧ wr.heap.size ≤ w'.heap.size) [(2, PVal (.agg #[.string (bs addrL), .string (bs cFrom)])), (3, PVal (.agg #[.string (bs addrL), .string (bs cAddress)])), (6, PKidL (fun v => ∃ g, v = Value.agg #[.string (bs addrL), .string (bs cAddress), .slice none 0 0, .slice (some ⟨g, 0, none⟩) 1 1, .string ⟨#[]⟩]) w.heap.size wr.heap.size (simpT addrL cAddress (f0 :: fl))), (7, PSl w.heap.size wr.heap.size 44 1 [simpT addrL cAddress (f0 :: fl)]), (9, PSl w.heap.size wr.heap.size 44 1 [fromT (f0 :: fl)]), (10, PRowG w.heap.size (g3 + 1) 5 44 4 ([simpT addrL cAction act, simpT addrL cTo tt, simpT addrL cMessageID ii] ++ [fromT (f0 :: fl)]))] [(7, [6]), (9, [7]), (10, [2, 3, 6, 7, 9])] [(10, fun w' => w'.ownsRow (g3 + 1) 44 5 (.slice p15 3 c15) 3 css.flatten)] [] (by kernel_rfl) (by kernel_rfl) ?_ ?_ ?_ ?_ ?_ ?_
  · rintro p _ w1' w2' ⟨g1, g2, g4, g6, g7, g8⟩ hR
    exact ⟨rT_blklo hR g1 (by omega), rT_blklo hR g2 (by omega), rT_blklo hR g4 (by omega), rT_trxl hR g6 (fun b hb e => by rcases hb with hb | hb; (have := (HVL.out _ e).1; omega); exact hb.2.2 e), rT_below hR g7 (by omega) (by omega), Nat.le_trans g8 (rT_size hR)⟩
  · intro p hp p' hp' hne hks hns w1' w2' v hI hR hf
    have hv : ∀ g, (Value.slice p15 3 c15).ownBlock = some g → w.heap.size ≤ g ∧ g < wr.heap.size := HVL.out
    simp only [List.mem_cons, List.not_mem_nil, or_false] at hp hp'
    rcases hp with rfl | rfl | rfl | rfl | rfl | rfl
    · trivial
    · trivial
    · exact PKidL_stays hR hv hf
    · exact PSl_stays hR hv hf
    · exact PSl_stays hR hv hf
    · rcases hp' with rfl | rfl | rfl | rfl | rfl | rfl
      · exact absurd (show (2 : Nat) ∈ needs [(7, [6]), (9, [7]), (10, [2, 3, 6, 7, 9])] 10 by decide) hns
      · exact absurd (show (3 : Nat) ∈ needs [(7, [6]), (9, [7]), (10, [2, 3, 6, 7, 9])] 10 by decide) hns
      · exact absurd (show (6 : Nat) ∈ needs [(7, [6]), (9, [7]), (10, [2, 3, 6, 7, 9])] 10 by decide) hns
      · exact absurd (show (7 : Nat) ∈ needs [(7, [6]), (9, [7]), (10, [2, 3, 6, 7, 9])] 10 by decide) hns
      · exact absurd (show (9 : Nat) ∈ needs [(7, [6]), (9, [7]), (10, [2, 3, 6, 7, 9])] 10 by decide) hns
      · exact absurd rfl hne
  · intro p hp u hu hne w1' w2' hI hR hf
    simp only [List.mem_cons, List.not_mem_nil, or_false] at hp hu
    subst hu
    rcases hp with rfl | rfl | rfl | rfl | rfl | rfl
    · have hR := rT_o (show (2 : Nat) ≠ 10 by decide) ▸ hR
      exact owns_below hf hR
    · have hR := rT_o (show (3 : Nat) ≠ 10 by decide) ▸ hR
      exact owns_below hf hR
    · have hR := rT_o (show (6 : Nat) ≠ 10 by decide) ▸ hR
      exact owns_below hf hR
    · have hR := rT_o (show (7 : Nat) ≠ 10 by decide) ▸ hR
      exact owns_below hf hR
    · have hR := rT_o (show (9 : Nat) ≠ 10 by decide) ▸ hR
      exact owns_below hf hR
    · exact absurd rfl hne
  · intro u hu
    simp only [List.mem_cons, List.not_mem_nil, or_false] at hu
    subst hu
    exact owns_below G6.out (Below.refl _ _).drew
  · exact ⟨G1.out, G2.out, G4.out, G7.out.below (Below.refl _ _).drew, G8.out.drew, Nat.le_refl _⟩
  simp only [List.take_succ_cons, List.take_zero, List.drop_succ_cons, List.drop_zero]
  clear G1 G2 G4 G6 G7 G8
  repeat (first | (refine phiU_skipK rfl (fun K hK => ?_); simp only [Act.put, List.setIfInBounds_toArray, List.set_cons_succ, List.set_cons_zero, List.cons_append, List.nil_append]; apply hK; clear hK K) | (refine phiU_pureK rfl rfl (fun K hK => ?_); apply Exists.intro; constructor; (focus (rintro w' ⟨g1, g2, g4, g6, g7, g8⟩; have e3 := (g1.cell 3).trans rfl; have k3 := (g2.cell 3).trans rfl; clear g1 g2 g4 g6 g7 g8; first | (go_simp; done) | (go_simp; (try go_bits); (try go_simp); rfl) | go_simp)); simp only [Act.put, List.setIfInBounds_toArray, List.set_cons_succ, List.set_cons_zero]; apply hK; clear hK K))
  refine phiU_partK (PVal (.agg #[.string (bs addrL), .string (bs cFrom)])) rfl rfl ⟨_, rfl⟩ ?_ (fun K hK v hv => ?_)
  · rintro w' ⟨g1, g2, g4, g6, g7, g8⟩ hf hu
    clear hf hu g1 g2 g4 g6 g7 g8
    unfold gives
    go_simp
    refine (saddr_any cFrom w').mono ?_
    rintro e w'' ⟨rfl, hb⟩
    exact ⟨_, rfl, rfl, trivial, by rw [rT_o (by decide)]; exact hb⟩
  obtain rfl : v = _ := hv
  simp only [Act.put, List.setIfInBounds_toArray, List.set_cons_succ, List.set_cons_zero, List.nil_append]
  apply hK
  clear hK K
  refine phiU_partK (PVal (.agg #[.string (bs addrL), .string (bs cAddress)])) rfl rfl ⟨_, rfl⟩ ?_ (fun K hK v hv => ?_)
  · rintro w' ⟨g1, g2, g4, g6, g7, g8⟩ hf hu
    clear hf hu g1 g2 g4 g6 g7 g8
    unfold gives
    go_simp
    refine (saddr_any cAddress w').mono ?_
    rintro e w'' ⟨rfl, hb⟩
    exact ⟨_, rfl, rfl, trivial, by rw [rT_o (by decide)]; exact hb⟩
  obtain rfl : v = _ := hv
  simp only [Act.put, List.setIfInBounds_toArray, List.set_cons_succ, List.set_cons_zero, List.cons_append, List.nil_append]
  apply hK
  clear hK K
  repeat (first | (refine phiU_skipK rfl (fun K hK => ?_); simp only [Act.put, List.setIfInBounds_toArray, List.set_cons_succ, List.set_cons_zero, List.cons_append, List.nil_append]; apply hK; clear hK K) | (refine phiU_pureK rfl rfl (fun K hK => ?_); apply Exists.intro; constructor; (focus (rintro w' ⟨g1, g2, g4, g6, g7, g8⟩; have e3 := (g1.cell 3).trans rfl; have k3 := (g2.cell 3).trans rfl; clear g1 g2 g4 g6 g7 g8; first | (go_simp; done) | (go_simp; (try go_bits); (try go_simp); rfl) | go_simp)); simp only [Act.put, List.setIfInBounds_toArray, List.set_cons_succ, List.set_cons_zero]; apply hK; clear hK K))
  refine phiU_partK (PKidL (fun v => ∃ g, v = Value.agg #[.string (bs addrL), .string (bs cAddress), .slice none 0 0, .slice (some ⟨g, 0, none⟩) 1 1, .string ⟨#[]⟩]) w.heap.size wr.heap.size (simpT addrL cAddress (f0 :: fl))) rfl rfl ⟨_, 0, rfl⟩ ?_ (fun K hK v hv => ?_)
  · rintro w' ⟨g1, g2, g4, g6, g7, g8⟩ hf hu
    have HG := Lib.hid g8
    clear hf hu g1 g2 g4 g6 g7 g8
    unfold gives
    go_simp
    refine (simple_any addrL cAddress (f0 :: fl) w').mono ?_
    rintro e w'' ⟨g, rfl, hg, hlt, hk, hb⟩
    exact ⟨_, rfl, ⟨g, rfl⟩, ⟨_, w''.heap.size, rfl, simp_trx (by have := HG.out; omega) hk, Nat.le_refl _⟩, by rw [rT_o (by decide)]; exact hb⟩
  obtain ⟨q6, rfl⟩ := hv
  simp only [Act.put, List.setIfInBounds_toArray, List.set_cons_succ, List.set_cons_zero, List.cons_append, List.nil_append]
  apply hK
  clear hK K
  refine phiU_partK (PSl w.heap.size wr.heap.size 44 1 [simpT addrL cAddress (f0 :: fl)]) rfl rfl ⟨_, 0, rfl⟩ ?_ (fun K hK v hv => ?_)
  · rintro w' ⟨g1, g2, g4, g6, g7, g8⟩ hf hu
    have f6 := hf (6, fun w1 => (PKidL (fun v => ∃ g, v = Value.agg #[.string (bs addrL), .string (bs cAddress), .slice none 0 0, .slice (some ⟨g, 0, none⟩) 1 1, .string ⟨#[]⟩]) w.heap.size wr.heap.size (simpT addrL cAddress (f0 :: fl))).fact w1 (.agg #[.string (bs addrL), .string (bs cAddress), .slice none 0 0, .slice (some ⟨q6, 0, none⟩) 1 1, .string ⟨#[]⟩])) (by simp) (List.contains_iff_mem.1 rfl) rfl
    have F6 := Lib.hid f6
    have HG := Lib.hid g8
    clear hf hu f6 g1 g2 g4 g6 g7 g8
    unfold gives
    go_simp
    refine ⟨⟨_, rfl⟩, fun g hg => ?_, by rw [rT_o (by decide)]; exact below_alloc1 _ _⟩
    obtain rfl : w'.heap.size = g := by simpa using hg
    obtain ⟨c6, B6, e6, t6, b6⟩ := F6.out
    injection e6 with e6
    have e6 := congrArg Array.toList e6
    dsimp only at e6
    subst e6
    refine ⟨HG.out, [[.string (bs addrL), .string (bs cAddress), .slice none 0 0, .slice (some ⟨q6, 0, none⟩) 1 1, .string ⟨#[]⟩]], _, Blk.new _ _ _, ?_, Nat.le_refl _⟩
    exact ⟨_, _, rfl, t6.high (below_alloc1 _ _) b6, rfl⟩
  obtain ⟨y7, rfl⟩ := hv
  simp only [Act.put, List.setIfInBounds_toArray, List.set_cons_succ, List.set_cons_zero, List.cons_append, List.nil_append]
  apply hK
  clear hK K
  repeat (first | (refine phiU_skipK rfl (fun K hK => ?_); simp only [Act.put, List.setIfInBounds_toArray, List.set_cons_succ, List.set_cons_zero, List.cons_append, List.nil_append]; apply hK; clear hK K) | (refine phiU_pureK rfl rfl (fun K hK => ?_); apply Exists.intro; constructor; (focus (rintro w' ⟨g1, g2, g4, g6, g7, g8⟩; have e3 := (g1.cell 3).trans rfl; have k3 := (g2.cell 3).trans rfl; clear g1 g2 g4 g6 g7 g8; first | (go_simp; done) | (go_simp; (try go_bits); (try go_simp); rfl) | go_simp)); simp only [Act.put, List.setIfInBounds_toArray, List.set_cons_succ, List.set_cons_zero]; apply hK; clear hK K))
  refine phiU_partK (PSl w.heap.size wr.heap.size 44 1 [fromT (f0 :: fl)]) rfl rfl ⟨_, 0, rfl⟩ ?_ (fun K hK v hv => ?_)
  · rintro w' ⟨g1, g2, g4, g6, g7, g8⟩ hf hu
    have f7 := hf (7, fun w1 => (PSl w.heap.size wr.heap.size 44 1 [simpT addrL cAddress (f0 :: fl)]).fact w1 (.slice (some ⟨y7, 0, none⟩) 1 1)) (by simp) (List.contains_iff_mem.1 rfl) rfl y7 rfl
    have F := Lib.hid f7
    have HG := Lib.hid g8
    clear hf hu f7 g1 g2 g4 g6 g7 g8
    unfold gives
    go_simp
    refine ⟨⟨_, rfl⟩, fun g hg => ?_, by rw [rT_o (by decide)]; exact below_alloc1 _ _⟩
    obtain rfl : w'.heap.size = g := by simpa using hg
    obtain ⟨h1, css, B, b4, t4, l4⟩ := F.out
    refine ⟨HG.out, [[.string (bs addrL), .string (bs cFrom), .slice none 0 0, .slice (some ⟨y7, 0, none⟩) 1 1, .string ⟨#[]⟩]], _, Blk.new _ _ _, TrXL.one ?_, Nat.le_refl _⟩
    exact node_trx (nm := [addrL, cFrom]) (tx := []) h1 (b4.below (below_alloc1 _ _) b4.lt) (t4.high (below_alloc1 _ _) l4) rfl (by decide)
  obtain ⟨y9, rfl⟩ := hv
  simp only [Act.put, List.setIfInBounds_toArray, List.set_cons_succ, List.set_cons_zero, List.cons_append, List.nil_append]
  apply hK
  clear hK K
  refine phiU_partK (PRowG w.heap.size (g3 + 1) 5 44 4 ([simpT addrL cAction act, simpT addrL cTo tt, simpT addrL cMessageID ii] ++ [fromT (f0 :: fl)])) rfl rfl ⟨_, none, 0, rfl⟩ ?_ (fun K hK v hv => ?_)
  · rintro w' ⟨g1, g2, g4, g6, g7, g8⟩ hf hu
    have f4 := hf (9, fun w1 => (PSl w.heap.size wr.heap.size 44 1 [fromT (f0 :: fl)]).fact w1 (.slice (some ⟨y9, 0, none⟩) 1 1)) (by simp) (List.contains_iff_mem.1 rfl) rfl y9 rfl
    obtain ⟨h4b, css9, B, b4, t4, l4⟩ := f4
    have hu8 : w'.ownsRow (g3 + 1) 44 5 (.slice p15 3 c15) 3 css.flatten := hu (10, fun w' => w'.ownsRow (g3 + 1) 44 5 (.slice p15 3 c15) 3 css.flatten) (by simp) rfl
    clear hf hu
    refine gives_appAt (.tmp 28) (.tmp 36) 39 rfl (g3 + 1) 44 i9 (.agg #[.string ⟨#[]⟩, .string ⟨#[]⟩, .slice none 0 0, .slice none 0 0, .string ⟨#[]⟩]) 5 96 Tryz.underlying39 hi9 hy0 hy1 hy2 rfl (by decide) _ _ _ rfl hu8 _ _ _ css9.flatten rfl (by rw [trxl_flen _ _ (k := 2) (by simp [simpT, fromT, Tr.nm]) t4]; rfl) (rd_blk b4) (trxl_ones _ _ t4) (by unfold maxLen; omega) (by omega) (by omega) ?_
    intro v2 w2 ho2 hg2 hat2
    obtain ⟨p2, c2, rfl, _, _, _⟩ := owns_rd ho2
    refine ⟨⟨p2, c2, rfl⟩, prow_stepG (css := css) hg2 hat2 HVL.out (B0 := wr.heap.size) (by omega) (by omega) (by omega) g6 t4 l4 (by rw [List.flatten_append]; exact ho2), ?_⟩
    rw [rT_at]
    exact ⟨⟨_, hu8⟩, hg2⟩
  obtain ⟨p10, c10, rfl⟩ := hv
  simp only [Act.put, List.setIfInBounds_toArray, List.set_cons_succ, List.set_cons_zero, List.cons_append, List.nil_append]
  apply hK
  clear hK K
  repeat (first | (refine phiU_skipK rfl (fun K hK => ?_); simp only [Act.put, List.setIfInBounds_toArray, List.set_cons_succ, List.set_cons_zero, List.cons_append, List.nil_append]; apply hK; clear hK K) | (refine phiU_pureK rfl rfl (fun K hK => ?_); apply Exists.intro; constructor; (focus (rintro w' ⟨g1, g2, g4, g6, g7, g8⟩; have e3 := (g1.cell 3).trans rfl; have k3 := (g2.cell 3).trans rfl; clear g1 g2 g4 g6 g7 g8; first | (go_simp; done) | (go_simp; (try go_bits); (try go_simp); rfl) | go_simp)); simp only [Act.put, List.setIfInBounds_toArray, List.set_cons_succ, List.set_cons_zero, List.cons_append, List.nil_append]; apply hK; clear hK K))
  refine phiU_done ?_
  rintro w9 ⟨g1, g2, g4, g6, g7, g8⟩ hf
  obtain ⟨css9, ho9, hk9⟩ := hf (10, fun w1 => (PRowG w.heap.size (g3 + 1) 5 44 4 ([simpT addrL cAction act, simpT addrL cTo tt, simpT addrL cMessageID ii] ++ [fromT (f0 :: fl)])).fact w1 (.slice p10 4 c10)) (by simp) rfl
  have f3 := g2.frozen 3
  have k3 := (g2.cell 3).trans rfl
  have O9 := ((Only.refl g3 w9).set_ 3 (.slice p10 4 c10))
  have R1 := Lib.hid (O9.blk g1 (by omega))
  have R4 := Lib.hid (O9.blk g4 (by omega))
  have R2 := Lib.hid (show Blk (w9.setCell ⟨g3, 3, none⟩ (.slice p10 4 c10)) g3 44 #[.string (bs soapL), .string (bs cHeader), .slice none 0 0, .slice p10 4 c10, .string ⟨#[]⟩] from g2.set_ 3 _)
  have R8 := Lib.hid (g7.setCell (p := ⟨g3, 3, none⟩) (show w.heap.size ≤ g3 by omega) (.slice p10 4 c10))
  have R6 := Lib.hid (O9.owns2 ho9 (by omega))
  have R7 := Lib.hid (hk9.only O9 (fun b hb => by rcases hb with hb | hb; omega; (have := hb.1; omega)))
  rw [show w9.heap.size = (w9.setCell ⟨g3, 3, none⟩ (.slice p10 4 c10)).heap.size from O9.size.symm] at R7
  have HO9S := Lib.hid O9.size
  have S9 := Lib.hid (show wr.heap.size ≤ (w9.setCell ⟨g3, 3, none⟩ (.slice p10 4 c10)).heap.size by rw [O9.size]; exact g8)
  have e3 := (R1.out.cell 3).trans rfl
  have e4 := (R1.out.cell 4).trans rfl
  have e5 := (R1.out.cell 5).trans rfl
  clear hf g1 g2 g4 g6 g7 g8 O9 ho9 hk9 HVL
  have hs9 := S9.out
  have HRW := Lib.hid (HRD.out.keep (Below.keeps R8.out))
  have HHW := Lib.hid (TrXL.keepP (fun a v _ hv => Below.keeps R8.out a v hv) _ _ HH.out)
  have HFL := Lib.hid (show cssH.flatten.length = hds.length * 5 from trxl_flen _ _ HOK.out HH.out)
  have HON := Lib.hid (trxl_ones _ _ HH.out)
  have HVL := Lib.hid (show ∀ g, (Value.slice p10 4 c10).ownBlock = some g → w.heap.size ≤ g ∧ g < (w9.setCell ⟨g3, 3, none⟩ (.slice p10 4 c10)).heap.size from fun g hg => ⟨by have := (R6.out.lt g hg).1; omega, (R6.out.lt g hg).2⟩)
  have hlm := HL.out
  go_wp2_with (at_builtin; refine wpList_appAt (.tmp 52) (.tmp 54) 39 rfl rfl (g3 + 1) 44 i9 (.agg #[.string ⟨#[]⟩, .string ⟨#[]⟩, .slice none 0 0, .slice none 0 0, .string ⟨#[]⟩]) 5 96 Tryz.underlying39 hi9 hy0 hy1 hy2 rfl (by decide) _ _ _ rfl R6.out _ _ _ cssH.flatten rfl HFL.out HRW.out HON.out (by unfold maxLen; omega) (by omega) (by omega) ?_)
  intro v7 w7 ho7 hg7 hat7
  rw [← HO9S.out] at hat7
  clear f3 k3 e3 e4 e5
  generalize (w9.setCell ⟨g3, 3, none⟩ (.slice p10 4 c10)) = wS at *
  have hR7 : rT 0 (g3 + 1) 5 44 (.slice p10 4 c10) 4 0 wS w7 := by rw [rT_at]; exact ⟨⟨_, R6.out⟩, hg7⟩
  obtain ⟨cssA, hoA, hkA⟩ : (PRowG w.heap.size (g3 + 1) 5 44 (4 + hds.length) (([simpT addrL cAction act, simpT addrL cTo tt, simpT addrL cMessageID ii] ++ [fromT (f0 :: fl)]) ++ hds)).fact w7 v7 := prow_stepG (css := css9) (dss := cssH) (B := wS.heap.size) hg7 hat7 HVL.out (B0 := wS.heap.size) (by omega) (Nat.le_refl _) (by omega) R7.out (TrXL.imp (fun b hb => .inl hb) _ _ HHW.out) (Nat.le_refl _) (by rw [List.flatten_append]; exact ho7)
  obtain ⟨pN, cN, rfl, _, _, _⟩ := owns_rd hoA
  have g1 := rT_blklo hR7 R1.out (by omega)
  have g2 := rT_blklo hR7 R2.out (by omega)
  have g4 := rT_blklo hR7 R4.out (by omega)
  have g7 := rT_below hR7 R8.out (by omega) (by omega)
  have g8 := rT_size hR7
  have f3 := g2.frozen 3
  have k3 := (g2.cell 3).trans rfl
  have O9 := ((Only.refl g3 w7).set_ 3 (.slice pN (4 + hds.length) cN))
  have W1 := Lib.hid (O9.blk g1 (by omega))
  have W4 := Lib.hid (O9.blk g4 (by omega))
  have W2 := Lib.hid (show Blk (w7.setCell ⟨g3, 3, none⟩ (.slice pN (4 + hds.length) cN)) g3 44 #[.string (bs soapL), .string (bs cHeader), .slice none 0 0, .slice pN (4 + hds.length) cN, .string ⟨#[]⟩] from g2.set_ 3 _)
  have W8 := Lib.hid (g7.setCell (p := ⟨g3, 3, none⟩) (show w.heap.size ≤ g3 by omega) (.slice pN (4 + hds.length) cN))
  have WT := Lib.hid (hdr_trx (nm := [soapL, cHeader]) hoA hkA (by (simp only [List.length_append, List.length_cons, List.length_nil]) <;> omega) (by omega) O9)
  have WZ := Lib.hid (show g3 < (w7.setCell ⟨g3, 3, none⟩ (.slice pN (4 + hds.length) cN)).heap.size from W2.out.lt)
  clear ho7 hg7 hat7 hR7 hoA hkA g1 g2 g4 g7 g8 O9 R1 R2 R4 R6 R7 R8 HO9S HRW HHW HFL HON HVL HH HRD HOK hs9 S9 hi9 hy0 hy1 hy2 hlm HL
  go_wp2_with fail
  clear f3 k3
  generalize w7.setCell ⟨g3, 3, none⟩ (.slice pN (4 + hds.length) cN) = wA at *
  refine wp_phi_tail (List.take 6 _) (List.drop 6 _) (List.take_append_drop 6 _).symm (fun w' => (Blk w' w.heap.size 46 #[.string (bs act), .string (bs tt), .string (bs ii), .string (bs (f0 :: fl)), .string (bs []), .slice ph hds.length ch, v0, v1, v2, v3, v4]) ∧ Below wA.heap.size wA w') [(0, PVal (.agg #[.string (bs soapL), .string (bs cBody)])), (3, PBlk wA.heap.size 44 #[v0, v1, v2, v3, v4] 1), (5, PNew (wA.heap.size) 44 #[.string ⟨#[]⟩, .string ⟨#[]⟩, .slice none 0 0, .slice none 0 0, .string ⟨#[]⟩])] [] (by kernel_rfl) (by kernel_rfl) ?_ ?_ ⟨W1.out, ((Below.refl _ wA)).drew⟩ ?_
  · rintro w1' w2' ⟨f1, hIB⟩ hb
    exact ⟨(by first | exact f1.below hb | exact f1.keep (Below.keeps hb) | exact Below.keeps hb _ _ f1 | exact Blk.below f1 hb (Blk.lt f1)), hIB.trans (hb.mono hIB.size)⟩
  · simp only [List.mem_cons, List.not_mem_nil, or_false, forall_eq_or_imp, forall_eq]
    exact ⟨fun _ _ _ _ h' h => PVal_stays _ _ _ _ h' h, fun _ _ _ _ h' h => PBlk_stays h' h, fun _ _ _ _ h' h => PNew_stays h' h⟩
  simp only [List.take_succ_cons, List.take_zero, List.drop_succ_cons, List.drop_zero]
  repeat (first | (refine phi_skipK rfl (fun K hK => ?_); simp only [Act.put, List.setIfInBounds_toArray, List.set_cons_succ, List.set_cons_zero, List.cons_append, List.nil_append]; apply hK; clear hK K) | (refine phi_pureK rfl rfl (fun K hK => ?_); apply Exists.intro; constructor; (focus (rintro w' ⟨f1, hIB⟩; have q6 := (f1.cell 6).trans rfl; have q7 := (f1.cell 7).trans rfl; have q8 := (f1.cell 8).trans rfl; have q9 := (f1.cell 9).trans rfl; have q10 := (f1.cell 10).trans rfl; clear f1 hIB; first | (go_simp; done) | (go_simp; (try go_bits); (try go_simp); rfl) | go_simp)); simp only [Act.put, List.setIfInBounds_toArray, List.set_cons_succ, List.set_cons_zero, List.cons_append, List.nil_append]; apply hK; clear hK K))
  refine phi_partK (PVal (.agg #[.string (bs soapL), .string (bs cBody)])) rfl rfl ⟨_, rfl⟩ ?_ (fun K hK v hv => ?_)
  · rintro w' ⟨f1, hIB⟩ hf
    unfold gives
    clear hf
    go_simp
    refine (soown_any cBody _).mono ?_
    rintro e w'' ⟨rfl, hb⟩
    exact ⟨_, rfl, rfl, trivial, hb⟩
  obtain rfl : v = _ := hv
  simp only [Act.put, List.setIfInBounds_toArray, List.set_cons_succ, List.set_cons_zero, List.nil_append]
  apply hK
  clear hK K
  repeat (first | (refine phi_skipK rfl (fun K hK => ?_); simp only [Act.put, List.setIfInBounds_toArray, List.set_cons_succ, List.set_cons_zero, List.cons_append, List.nil_append]; apply hK; clear hK K) | (refine phi_pureK rfl rfl (fun K hK => ?_); apply Exists.intro; constructor; (focus (rintro w' ⟨f1, hIB⟩; have q6 := (f1.cell 6).trans rfl; have q7 := (f1.cell 7).trans rfl; have q8 := (f1.cell 8).trans rfl; have q9 := (f1.cell 9).trans rfl; have q10 := (f1.cell 10).trans rfl; clear f1 hIB; first | (go_simp; done) | (go_simp; (try go_bits); (try go_simp); rfl) | go_simp)); simp only [Act.put, List.setIfInBounds_toArray, List.set_cons_succ, List.set_cons_zero]; apply hK; clear hK K))
  refine phi_partK (PBlk wA.heap.size 44 #[v0, v1, v2, v3, v4] 1) rfl rfl ⟨_, 0, rfl⟩ ?_ (fun K hK v hv => ?_)
  · rintro w' ⟨f1, hIB⟩ hf
    have HGS := Lib.hid hIB.size
    clear hf f1 hIB
    unfold gives
    go_simp
    refine ⟨⟨_, rfl⟩, fun g hg => ?_, below_alloc1 _ _⟩
    obtain rfl : w'.heap.size = g := by simpa using hg
    exact ⟨HGS.out, Blk.new _ _ _⟩
  obtain ⟨g_3, rfl⟩ := hv
  simp only [Act.put, List.setIfInBounds_toArray, List.set_cons_succ, List.set_cons_zero, List.cons_append, List.nil_append]
  apply hK
  clear hK K
  repeat (first | (refine phi_skipK rfl (fun K hK => ?_); simp only [Act.put, List.setIfInBounds_toArray, List.set_cons_succ, List.set_cons_zero, List.cons_append, List.nil_append]; apply hK; clear hK K) | (refine phi_pureK rfl rfl (fun K hK => ?_); apply Exists.intro; constructor; (focus (rintro w' ⟨f1, hIB⟩; have q6 := (f1.cell 6).trans rfl; have q7 := (f1.cell 7).trans rfl; have q8 := (f1.cell 8).trans rfl; have q9 := (f1.cell 9).trans rfl; have q10 := (f1.cell 10).trans rfl; clear f1 hIB; first | (go_simp; done) | (go_simp; (try go_bits); (try go_simp); rfl) | go_simp)); simp only [Act.put, List.setIfInBounds_toArray, List.set_cons_succ, List.set_cons_zero]; apply hK; clear hK K))
  refine phi_partK (PNew (wA.heap.size) 44 #[.string ⟨#[]⟩, .string ⟨#[]⟩, .slice none 0 0, .slice none 0 0, .string ⟨#[]⟩]) rfl rfl ⟨_, 0, rfl⟩ ?_ (fun K hK v hv => ?_)
  · rintro w' ⟨f1, hIB⟩ hf
    have HGS := Lib.hid hIB.size
    clear hf f1 hIB
    unfold gives
    go_simp
    refine ⟨⟨_, rfl⟩, fun g hg => ?_, below_alloc1 _ _⟩
    obtain rfl : w'.heap.size = g := by simpa using hg
    exact ⟨HGS.out, Blk.new _ _ _⟩
  obtain ⟨g_5, rfl⟩ := hv
  simp only [Act.put, List.setIfInBounds_toArray, List.set_cons_succ, List.set_cons_zero, List.cons_append, List.nil_append]
  apply hK
  clear hK K
  repeat (first | (refine phi_skipK rfl (fun K hK => ?_); simp only [Act.put, List.setIfInBounds_toArray, List.set_cons_succ, List.set_cons_zero, List.cons_append, List.nil_append]; apply hK; clear hK K) | (refine phi_pureK rfl rfl (fun K hK => ?_); apply Exists.intro; constructor; (focus (rintro w' ⟨f1, hIB⟩; have q6 := (f1.cell 6).trans rfl; have q7 := (f1.cell 7).trans rfl; have q8 := (f1.cell 8).trans rfl; have q9 := (f1.cell 9).trans rfl; have q10 := (f1.cell 10).trans rfl; clear f1 hIB; first | (go_simp; done) | (go_simp; (try go_bits); (try go_simp); rfl) | go_simp)); simp only [Act.put, List.setIfInBounds_toArray, List.set_cons_succ, List.set_cons_zero, List.cons_append, List.nil_append]; apply hK; clear hK K))
  refine phi_done ?_
  rintro w5 ⟨f1, hb5⟩ hk9
  have hb_3 := hk9 (3, fun w1 => (PBlk wA.heap.size 44 #[v0, v1, v2, v3, v4] 1).fact w1 (.slice (some ⟨g_3, 0, none⟩) 1 1)) (by simp) g_3 rfl
  have hb_5 := hk9 (5, fun w1 => (PNew (wA.heap.size) 44 #[.string ⟨#[]⟩, .string ⟨#[]⟩, .slice none 0 0, .slice none 0 0, .string ⟨#[]⟩]).fact w1 (.pointer (some ⟨g_5, 0, none⟩))) (by simp) g_5 rfl
  clear hk9
  obtain ⟨hg6, hk6⟩ := hb_3
  obtain ⟨hg5, hk5⟩ := hb_5
  have hz5 := hb5.size
  have hz3 := WZ.out
  have hne : g_3 ≠ g_5 := fun e => by
    unfold Blk at hk6 hk5
    rw [e, hk5] at hk6
    simp at hk6
    exact HNV.out hk6.2.1.symm
  generalize g_3 = gK at *
  generalize g_5 = gB at *
  refine wpList_store (.tmp 4) (.tmp 61) 44 rfl rfl gB 0 _ _ #[.string (bs soapL), .string (bs cBody), .slice none 0 0, .slice (some ⟨gK, 0, none⟩) 1 1, .string ⟨#[]⟩] rfl rfl hk5 (by kernel_rfl) (by simp [Value.oneCell']) (by simp) ?_
  intro w6 hb6 ho6
  rw [putCells_all #[.string ⟨#[]⟩, .string ⟨#[]⟩, .slice none 0 0, .slice none 0 0, .string ⟨#[]⟩] #[.string (bs soapL), .string (bs cBody), .slice none 0 0, .slice (some ⟨gK, 0, none⟩) 1 1, .string ⟨#[]⟩] rfl] at hb6
  have X2 := Lib.hid (ho6.blk (W2.out.below hb5 (by omega)) (by omega))
  have X4 := Lib.hid (ho6.blk (W4.out.below hb5 (by omega)) (by omega))
  have X3 := Lib.hid (ho6.blk hk6 hne)
  have X5 := Lib.hid hb6
  have XT := Lib.hid (TrX.only (TrX.below WT.out hb5) ho6 (fun b hb => by rcases hb with hb | hb; omega; (have := hb.2.1; omega)))
  have X8 := Lib.hid (W8.out.trans ((hb5.mono (by omega)).trans (ho6.below (by omega))))
  have XZ := Lib.hid (show g3 < w6.heap.size ∧ gB < w6.heap.size ∧ gB ≠ w.heap.size + 1 ∧ gK ≠ w.heap.size + 1 from by have := ho6.size; have := hk5.lt; omega)
  clear f1 hb5 hg5 hk5 hg6 hk6 hz5 hz3 hne hb6 ho6 W1 W2 W4 W8 WT WZ
  go_wp2_with fail
  refine wp_phi_tail (List.take 5 _) (List.drop 5 _) (List.take_append_drop 5 _).symm (fun w' => (Blk w' g3 44 #[.string (bs soapL), .string (bs cHeader), .slice none 0 0, .slice pN (4 + hds.length) cN, .string ⟨#[]⟩]) ∧ (Blk w' gB 44 #[.string (bs soapL), .string (bs cBody), .slice none 0 0, .slice (some ⟨gK, 0, none⟩) 1 1, .string ⟨#[]⟩]) ∧ Below w6.heap.size w6 w') [(0, PVal (.agg #[.string (bs soapL), .string (bs cEnvelope)])), (3, PBlk w6.heap.size 44 #[.string (bs soapL), .string (bs cHeader), .slice none 0 0, .slice pN (4 + hds.length) cN, .string ⟨#[]⟩, .string (bs soapL), .string (bs cBody), .slice none 0 0, .slice (some ⟨gK, 0, none⟩) 1 1, .string ⟨#[]⟩] 2)] [] (by kernel_rfl) (by kernel_rfl) ?_ ?_ ⟨X2.out, X5.out, ((Below.refl _ w6)).drew⟩ ?_
  · rintro w1' w2' ⟨f1, f2, hIB⟩ hb
    exact ⟨(by first | exact f1.below hb | exact f1.keep (Below.keeps hb) | exact Below.keeps hb _ _ f1 | exact Blk.below f1 hb (Blk.lt f1)), (by first | exact f2.below hb | exact f2.keep (Below.keeps hb) | exact Below.keeps hb _ _ f2 | exact Blk.below f2 hb (Blk.lt f2)), hIB.trans (hb.mono hIB.size)⟩
  · simp only [List.mem_cons, List.not_mem_nil, or_false, forall_eq_or_imp, forall_eq]
    exact ⟨fun _ _ _ _ h' h => PVal_stays _ _ _ _ h' h, fun _ _ _ _ h' h => PBlk_stays h' h⟩
  simp only [List.take_succ_cons, List.take_zero, List.drop_succ_cons, List.drop_zero]
  repeat (first | (refine phi_skipK rfl (fun K hK => ?_); simp only [Act.put, List.setIfInBounds_toArray, List.set_cons_succ, List.set_cons_zero, List.cons_append, List.nil_append]; apply hK; clear hK K) | (refine phi_pureK rfl rfl (fun K hK => ?_); apply Exists.intro; constructor; (focus (rintro w' ⟨f1, f2, hIB⟩; have q0 := (f1.cell 0).trans rfl; have q1 := (f1.cell 1).trans rfl; have q2 := (f1.cell 2).trans rfl; have q3 := (f1.cell 3).trans rfl; have q4 := (f1.cell 4).trans rfl; have s0 := (f2.cell 0).trans rfl; have s1 := (f2.cell 1).trans rfl; have s2 := (f2.cell 2).trans rfl; have s3 := (f2.cell 3).trans rfl; have s4 := (f2.cell 4).trans rfl; clear f1 f2 hIB; first | (go_simp; done) | (go_simp; (try go_bits); (try go_simp); rfl) | go_simp)); simp only [Act.put, List.setIfInBounds_toArray, List.set_cons_succ, List.set_cons_zero, List.cons_append, List.nil_append]; apply hK; clear hK K))
  refine phi_partK (PVal (.agg #[.string (bs soapL), .string (bs cEnvelope)])) rfl rfl ⟨_, rfl⟩ ?_ (fun K hK v hv => ?_)
  · rintro w' ⟨f1, f2, hIB⟩ hf
    unfold gives
    clear hf
    go_simp
    refine (soown_any cEnvelope _).mono ?_
    rintro e w'' ⟨rfl, hb⟩
    exact ⟨_, rfl, rfl, trivial, hb⟩
  obtain rfl : v = _ := hv
  simp only [Act.put, List.setIfInBounds_toArray, List.set_cons_succ, List.set_cons_zero, List.nil_append]
  apply hK
  clear hK K
  repeat (first | (refine phi_skipK rfl (fun K hK => ?_); simp only [Act.put, List.setIfInBounds_toArray, List.set_cons_succ, List.set_cons_zero, List.cons_append, List.nil_append]; apply hK; clear hK K) | (refine phi_pureK rfl rfl (fun K hK => ?_); apply Exists.intro; constructor; (focus (rintro w' ⟨f1, f2, hIB⟩; have q0 := (f1.cell 0).trans rfl; have q1 := (f1.cell 1).trans rfl; have q2 := (f1.cell 2).trans rfl; have q3 := (f1.cell 3).trans rfl; have q4 := (f1.cell 4).trans rfl; have s0 := (f2.cell 0).trans rfl; have s1 := (f2.cell 1).trans rfl; have s2 := (f2.cell 2).trans rfl; have s3 := (f2.cell 3).trans rfl; have s4 := (f2.cell 4).trans rfl; clear f1 f2 hIB; first | (go_simp; done) | (go_simp; (try go_bits); (try go_simp); rfl) | go_simp)); simp only [Act.put, List.setIfInBounds_toArray, List.set_cons_succ, List.set_cons_zero]; apply hK; clear hK K))
  refine phi_partK (PBlk w6.heap.size 44 #[.string (bs soapL), .string (bs cHeader), .slice none 0 0, .slice pN (4 + hds.length) cN, .string ⟨#[]⟩, .string (bs soapL), .string (bs cBody), .slice none 0 0, .slice (some ⟨gK, 0, none⟩) 1 1, .string ⟨#[]⟩] 2) rfl rfl ⟨_, 0, rfl⟩ ?_ (fun K hK v hv => ?_)
  · rintro w' ⟨f1, f2, hIB⟩ hf
    have HGS := Lib.hid hIB.size
    clear hf f1 f2 hIB
    unfold gives
    go_simp
    refine ⟨⟨_, rfl⟩, fun g hg => ?_, below_alloc1 _ _⟩
    obtain rfl : w'.heap.size = g := by simpa using hg
    exact ⟨HGS.out, Blk.new _ _ _⟩
  obtain ⟨g_3, rfl⟩ := hv
  simp only [Act.put, List.setIfInBounds_toArray, List.set_cons_succ, List.set_cons_zero, List.cons_append, List.nil_append]
  apply hK
  clear hK K
  repeat (first | (refine phi_skipK rfl (fun K hK => ?_); simp only [Act.put, List.setIfInBounds_toArray, List.set_cons_succ, List.set_cons_zero, List.cons_append, List.nil_append]; apply hK; clear hK K) | (refine phi_pureK rfl rfl (fun K hK => ?_); apply Exists.intro; constructor; (focus (rintro w' ⟨f1, f2, hIB⟩; have q0 := (f1.cell 0).trans rfl; have q1 := (f1.cell 1).trans rfl; have q2 := (f1.cell 2).trans rfl; have q3 := (f1.cell 3).trans rfl; have q4 := (f1.cell 4).trans rfl; have s0 := (f2.cell 0).trans rfl; have s1 := (f2.cell 1).trans rfl; have s2 := (f2.cell 2).trans rfl; have s3 := (f2.cell 3).trans rfl; have s4 := (f2.cell 4).trans rfl; clear f1 f2 hIB; first | (go_simp; done) | (go_simp; (try go_bits); (try go_simp); rfl) | go_simp)); simp only [Act.put, List.setIfInBounds_toArray, List.set_cons_succ, List.set_cons_zero]; apply hK; clear hK K))
  refine phi_done ?_
  rintro wB ⟨f1, f2, hbB⟩ hk9
  have hb_3 := hk9 (3, fun w1 => (PBlk w6.heap.size 44 #[.string (bs soapL), .string (bs cHeader), .slice none 0 0, .slice pN (4 + hds.length) cN, .string ⟨#[]⟩, .string (bs soapL), .string (bs cBody), .slice none 0 0, .slice (some ⟨gK, 0, none⟩) 1 1, .string ⟨#[]⟩] 2).fact w1 (.slice (some ⟨g_3, 0, none⟩) 2 2)) (by simp) g_3 rfl
  clear hk9
  obtain ⟨hgT, hkT⟩ := hb_3
  generalize g_3 = gT at *
  have XB := X4.out.below hbB (by have := XZ.out; omega)
  refine wpList_store (.tmp 2) (.tmp 66) 44 rfl rfl (w.heap.size + 1) 0 _ _ #[.string (bs soapL), .string (bs cEnvelope), .slice none 0 0, .slice (some ⟨gT, 0, none⟩) 2 2, .string ⟨#[]⟩] rfl rfl XB (by kernel_rfl) (by simp [Value.oneCell']) (by simp) ?_
  intro w8 hb8 ho8
  rw [putCells_all #[.string ⟨#[]⟩, .string ⟨#[]⟩, .slice none 0 0, .slice none 0 0, .string ⟨#[]⟩] #[.string (bs soapL), .string (bs cEnvelope), .slice none 0 0, .slice (some ⟨gT, 0, none⟩) 2 2, .string ⟨#[]⟩] rfl] at hb8
  have hxz := XZ.out
  have hzB := hbB.size
  have HEAD := Lib.hid (TrX.imp (fun _ _ => trivial) _ _ (TrX.only (TrX.below XT.out hbB) ho8 (fun b hb => by rcases hb with hb | hb; omega; (have := hb.1; omega))) : TrX w8 (fun _ => True) _ _)
  have BROW := Lib.hid (ho8.blk (X3.out.below hbB X3.out.lt) (by omega))
  have TROW := Lib.hid (ho8.blk hkT (by omega))
  have BEL := Lib.hid (X8.out.trans ((hbB.mono (by have := X8.out.size; omega)).trans (ho8.below (by omega))))
  have BDY := Lib.hid (TrX.imp (fun _ _ => trivial) _ _ (TrX.keepP (fun a v _ hv => Below.keeps BEL.out a v hv) _ _ HB.out) : TrX w8 (fun _ => True) bdy [v0, v1, v2, v3, v4])
  have z0 := (hb8.cell 0).trans rfl; have z1 := (hb8.cell 1).trans rfl; have z2 := (hb8.cell 2).trans rfl; have z3 := (hb8.cell 3).trans rfl; have z4 := (hb8.cell 4).trans rfl
  clear hb8 ho8 hxz hzB XB hkT hgT f1 f2 hbB X2 X3 X4 X5 X8 XT XZ HB
  go_wp2_with fail
  refine bodyPost_ret (v := .agg #[.string (bs soapL), .string (bs cEnvelope), .slice none 0 0, .slice (some ⟨gT, 0, none⟩) 2 2, .string ⟨#[]⟩]) (by simp [results, Tryz.results76, go_sem, z0, z1, z2, z3, z4]) rfl ?_
  refine ⟨gT, rfl, TrX.plain (P := fun _ => True) _ _ ?_, BEL.out⟩
  exact node_trxP (P := fun _ => True) (nm := [soapL, cEnvelope]) (tx := []) (css := [_, _]) trivial TROW.out ⟨_, _, rfl, HEAD.out, _, _, rfl, node_trxP (P := fun _ => True) (nm := [soapL, cBody]) (tx := []) (css := [[v0, v1, v2, v3, v4]]) (n := 1) trivial BROW.out (TrXL.one BDY.out) rfl (by decide), rfl⟩ rfl (by decide)
theorem tree25_11 (act tt ii : List UInt8) (f0 : UInt8) (fl : List UInt8) (r0 : UInt8) (rl : List UInt8) (hds : List Tr) (bdy : Tr) (ph : Option Addr) (ch : Nat) (cssH : List (List Value)) (v0 v1 v2 v3 v4 : Value) (w : World) (hnv : v1 ≠ .string ⟨#[]⟩) (hl : hds.length ≤ 1000000) (hok : ∀ x ∈ hds, x.nm.length = 2) (hrd : Rd w ph cssH.flatten) (hH : TrXL w (fun b => b < w.heap.size) hds cssH) (hB : TrX w (fun b => b < w.heap.size) bdy [v0, v1, v2, v3, v4]) :
    Calls Tryz.prog 76 #[.agg #[.string (bs act), .string (bs tt), .string (bs ii), .string (bs (f0 :: fl)), .string (bs (r0 :: rl)), .slice ph hds.length ch, v0, v1, v2, v3, v4]] w (TreeR ⟨act, tt, ii, (f0 :: fl), (r0 :: rl), hds, bdy⟩ w) := by
  obtain ⟨i9, hi9, hy0, hy1, hy2⟩ := info_parts elem25_info
  have HNV := Lib.hid hnv; have HL := Lib.hid hl; have HOK := Lib.hid hok; have HRD := Lib.hid hrd; have HH := Lib.hid hH; have HB := Lib.hid hB
  have hba := below_alloc (below_alloc1 w (.cells #[.string (bs act), .string (bs tt), .string (bs ii), .string (bs (f0 :: fl)), .string (bs (r0 :: rl)), .slice ph hds.length ch, v0, v1, v2, v3, v4] 46)) (.cells #[.string ⟨#[]⟩, .string ⟨#[]⟩, .slice none 0 0, .slice none 0 0, .string ⟨#[]⟩] 44)
  have hn1 := (Blk.new w 46 #[.string (bs act), .string (bs tt), .string (bs ii), .string (bs (f0 :: fl)), .string (bs (r0 :: rl)), .slice ph hds.length ch, v0, v1, v2, v3, v4]).alloc (.cells #[.string ⟨#[]⟩, .string ⟨#[]⟩, .slice none 0 0, .slice none 0 0, .string ⟨#[]⟩] 44)
  have hn2 := Blk.new (w.alloc (.cells #[.string (bs act), .string (bs tt), .string (bs ii), .string (bs (f0 :: fl)), .string (bs (r0 :: rl)), .slice ph hds.length ch, v0, v1, v2, v3, v4] 46)) 44 #[.string ⟨#[]⟩, .string ⟨#[]⟩, .slice none 0 0, .slice none 0 0, .string ⟨#[]⟩]
  rw [World.size_alloc] at hn2
  have HBA := Lib.hid hba; have HN1 := Lib.hid hn1; have HN2 := Lib.hid hn2
  clear hnv hba hn1 hn2 hl hok hrd hH hB
  go_enter Tryz.func76, Tryz.ntmps76
  go_wp2_with fail
  generalize (w.alloc (.cells #[.string (bs act), .string (bs tt), .string (bs ii), .string (bs (f0 :: fl)), .string (bs (r0 :: rl)), .slice ph hds.length ch, v0, v1, v2, v3, v4] 46)).alloc (.cells #[.string ⟨#[]⟩, .string ⟨#[]⟩, .slice none 0 0, .slice none 0 0, .string ⟨#[]⟩] 44) = wa at *
  refine (soown_any cHeader wa).mono ?_
  rintro e w1 ⟨rfl, hb1⟩
  unfold snmV
  have hs1 := HN2.out.lt
  have hz1 := hb1.size
  have hal := below_alloc1 w1 (.cells #[.string (bs soapL), .string (bs cHeader), .slice none 0 0, .slice none 0 0, .string ⟨#[]⟩] 44)
  have HBW := Lib.hid (HBA.out.trans ((hb1.mono HBA.out.size).trans (hal.mono (by have := HBA.out.size; omega))))
  have G1 := Lib.hid ((HN1.out.below hb1 (by omega)).alloc (.cells #[.string (bs soapL), .string (bs cHeader), .slice none 0 0, .slice none 0 0, .string ⟨#[]⟩] 44))
  have G4 := Lib.hid ((HN2.out.below hb1 (by omega)).alloc (.cells #[.string (bs soapL), .string (bs cHeader), .slice none 0 0, .slice none 0 0, .string ⟨#[]⟩] 44))
  have G2 := Lib.hid (Blk.new w1 44 #[.string (bs soapL), .string (bs cHeader), .slice none 0 0, .slice none 0 0, .string ⟨#[]⟩])
  have HSZ := Lib.hid (show w.heap.size + 1 < w1.heap.size by omega)
  clear hb1 hs1 hz1 hal HN1 HN2 HBA
  go_wp2_with fail
  generalize hg3 : w1.heap.size = g3 at *
  have HS3 := Lib.hid (show g3 + 1 ≤ (w1.alloc (.cells #[.string (bs soapL), .string (bs cHeader), .slice none 0 0, .slice none 0 0, .string ⟨#[]⟩] 44)).heap.size by rw [World.size_alloc]; omega)
  generalize w1.alloc (.cells #[.string (bs soapL), .string (bs cHeader), .slice none 0 0, .slice none 0 0, .string ⟨#[]⟩] 44) = wr at *
  have G8 := HBW
  have hsz := HSZ.out; have hs3 := HS3.out
  refine wp_phiU_tail (List.take 16 _) (List.drop 16 _) (List.take_append_drop 16 _).symm (rT 15 (g3 + 1) 5 44 (.slice none 0 0) 0) (fun w' => Blk w' w.heap.size 46 #[.string (bs act), .string (bs tt), .string (bs ii), .string (bs (f0 :: fl)), .string (bs (r0 :: rl)), .slice ph hds.length ch, v0, v1, v2, v3, v4] ∧ Blk w' g3 44 #[.string (bs soapL), .string (bs cHeader), .slice none 0 0, .slice none 0 0, .string ⟨#[]⟩] ∧ Blk w' (w.heap.size + 1) 44 #[.string ⟨#[]⟩, .string ⟨#[]⟩, .slice none 0 0, .slice none 0 0, .string ⟨#[]⟩] ∧ Below w.heap.size w w' ∧ wr.heap.size ≤ w'.heap.size) [(2, PVal (.agg #[.string (bs addrL), .string (bs cAction)])), (5, PKidL (fun v => ∃ g, v = Value.agg #[.string (bs addrL), .string (bs cAction), .slice none 0 0, .slice (some ⟨g, 0, none⟩) 1 1, .string ⟨#[]⟩]) w.heap.size wr.heap.size (simpT addrL cAction act)), (6, PVal (.agg #[.string (bs addrL), .string (bs cTo)])), (9, PKidL (fun v => ∃ g, v = Value.agg #[.string (bs addrL), .string (bs cTo), .slice none 0 0, .slice (some ⟨g, 0, none⟩) 1 1, .string ⟨#[]⟩]) w.heap.size wr.heap.size (simpT addrL cTo tt)), (10, PVal (.agg #[.string (bs addrL), .string (bs cMessageID)])), (13, PKidL (fun v => ∃ g, v = Value.agg #[.string (bs addrL), .string (bs cMessageID), .slice none 0 0, .slice (some ⟨g, 0, none⟩) 1 1, .string ⟨#[]⟩]) w.heap.size wr.heap.size (simpT addrL cMessageID ii)), (14, PSl w.heap.size wr.heap.size 44 3 [simpT addrL cAction act, simpT addrL cTo tt, simpT addrL cMessageID ii]), (15, PRowG w.heap.size (g3 + 1) 5 44 3 ([] ++ [simpT addrL cAction act, simpT addrL cTo tt, simpT addrL cMessageID ii]))] [(14, [5, 9, 13]), (15, [2, 5, 6, 9, 10, 13, 14])] [] [] (by kernel_rfl) (by kernel_rfl) ?_ ?_ ?_ ?_ ?_ ?_
  · rintro p _ w1' w2' ⟨g1, g2, g4, g7, g8⟩ hR
    exact ⟨rT_blklo hR g1 (by omega), rT_blklo hR g2 (by omega), rT_blklo hR g4 (by omega), rT_below hR g7 (by omega) (by omega), Nat.le_trans g8 (rT_size hR)⟩
  · intro p hp p' hp' hne hks hns w1' w2' v hI hR hf
    have hv : ∀ g, (Value.slice none 0 0).ownBlock = some g → w.heap.size ≤ g ∧ g < wr.heap.size := fun g hg => by cases hg
    simp only [List.mem_cons, List.not_mem_nil, or_false] at hp hp'
    rcases hp with rfl | rfl | rfl | rfl | rfl | rfl | rfl | rfl
    · trivial
    · exact PKidL_stays hR hv hf
    · trivial
    · exact PKidL_stays hR hv hf
    · trivial
    · exact PKidL_stays hR hv hf
    · exact PSl_stays hR hv hf
    · rcases hp' with rfl | rfl | rfl | rfl | rfl | rfl | rfl | rfl
      · exact absurd (show (2 : Nat) ∈ needs [(14, [5, 9, 13]), (15, [2, 5, 6, 9, 10, 13, 14])] 15 by decide) hns
      · exact absurd (show (5 : Nat) ∈ needs [(14, [5, 9, 13]), (15, [2, 5, 6, 9, 10, 13, 14])] 15 by decide) hns
      · exact absurd (show (6 : Nat) ∈ needs [(14, [5, 9, 13]), (15, [2, 5, 6, 9, 10, 13, 14])] 15 by decide) hns
      · exact absurd (show (9 : Nat) ∈ needs [(14, [5, 9, 13]), (15, [2, 5, 6, 9, 10, 13, 14])] 15 by decide) hns
      · exact absurd (show (10 : Nat) ∈ needs [(14, [5, 9, 13]), (15, [2, 5, 6, 9, 10, 13, 14])] 15 by decide) hns
      · exact absurd (show (13 : Nat) ∈ needs [(14, [5, 9, 13]), (15, [2, 5, 6, 9, 10, 13, 14])] 15 by decide) hns
      · exact absurd (show (14 : Nat) ∈ needs [(14, [5, 9, 13]), (15, [2, 5, 6, 9, 10, 13, 14])] 15 by decide) hns
      · exact absurd rfl hne
  · intro p hp u hu hne w1' w2' hI hR hf
    cases hu
  · intro u hu
    cases hu
  · exact ⟨G1.out, G2.out, G4.out, G8.out.drew, Nat.le_refl _⟩
  simp only [List.take_succ_cons, List.take_zero, List.drop_succ_cons, List.drop_zero]
  clear G1 G2 G4 G8
  repeat (first | (refine phiU_skipK rfl (fun K hK => ?_); simp only [Act.put, List.setIfInBounds_toArray, List.set_cons_succ, List.set_cons_zero, List.cons_append, List.nil_append]; apply hK; clear hK K) | (refine phiU_pureK rfl rfl (fun K hK => ?_); apply Exists.intro; constructor; (focus (rintro w' ⟨g1, g2, g4, g7, g8⟩; have e0 := (g1.cell 0).trans rfl; have e1 := (g1.cell 1).trans rfl; have e2 := (g1.cell 2).trans rfl; have k3 := (g2.cell 3).trans rfl; clear g1 g2 g4 g7 g8; first | (go_simp; done) | (go_simp; (try go_bits); (try go_simp); rfl) | go_simp)); simp only [Act.put, List.setIfInBounds_toArray, List.set_cons_succ, List.set_cons_zero]; apply hK; clear hK K))
  refine phiU_partK (PVal (.agg #[.string (bs addrL), .string (bs cAction)])) rfl rfl ⟨_, rfl⟩ ?_ (fun K hK v hv => ?_)
  · rintro w' ⟨g1, g2, g4, g7, g8⟩ hf hu
    clear hf hu g1 g2 g4 g7 g8
    unfold gives
    go_simp
    refine (saddr_any cAction w').mono ?_
    rintro e w'' ⟨rfl, hb⟩
    exact ⟨_, rfl, rfl, trivial, by rw [rT_o (by decide)]; exact hb⟩
  obtain rfl : v = _ := hv
  simp only [Act.put, List.setIfInBounds_toArray, List.set_cons_succ, List.set_cons_zero, List.nil_append]
  apply hK
  clear hK K
  repeat (first | (refine phiU_skipK rfl (fun K hK => ?_); simp only [Act.put, List.setIfInBounds_toArray, List.set_cons_succ, List.set_cons_zero, List.cons_append, List.nil_append]; apply hK; clear hK K) | (refine phiU_pureK rfl rfl (fun K hK => ?_); apply Exists.intro; constructor; (focus (rintro w' ⟨g1, g2, g4, g7, g8⟩; have e0 := (g1.cell 0).trans rfl; have e1 := (g1.cell 1).trans rfl; have e2 := (g1.cell 2).trans rfl; have k3 := (g2.cell 3).trans rfl; clear g1 g2 g4 g7 g8; first | (go_simp; done) | (go_simp; (try go_bits); (try go_simp); rfl) | go_simp)); simp only [Act.put, List.setIfInBounds_toArray, List.set_cons_succ, List.set_cons_zero]; apply hK; clear hK K))
  refine phiU_partK (PKidL (fun v => ∃ g, v = Value.agg #[.string (bs addrL), .string (bs cAction), .slice none 0 0, .slice (some ⟨g, 0, none⟩) 1 1, .string ⟨#[]⟩]) w.heap.size wr.heap.size (simpT addrL cAction act)) rfl rfl ⟨_, 0, rfl⟩ ?_ (fun K hK v hv => ?_)
  · rintro w' ⟨g1, g2, g4, g7, g8⟩ hf hu
    have HG := Lib.hid g8
    clear hf hu g1 g2 g4 g7 g8
    unfold gives
    go_simp
    refine (simple_any addrL cAction act w').mono ?_
    rintro e w'' ⟨g, rfl, hg, hlt, hk, hb⟩
    exact ⟨_, rfl, ⟨g, rfl⟩, ⟨_, w''.heap.size, rfl, simp_trx (by have := HG.out; omega) hk, Nat.le_refl _⟩, by rw [rT_o (by decide)]; exact hb⟩
  obtain ⟨q5, rfl⟩ := hv
  simp only [Act.put, List.setIfInBounds_toArray, List.set_cons_succ, List.set_cons_zero, List.cons_append, List.nil_append]
  apply hK
  clear hK K
  repeat (first | (refine phiU_skipK rfl (fun K hK => ?_); simp only [Act.put, List.setIfInBounds_toArray, List.set_cons_succ, List.set_cons_zero, List.cons_append, List.nil_append]; apply hK; clear hK K) | (refine phiU_pureK rfl rfl (fun K hK => ?_); apply Exists.intro; constructor; (focus (rintro w' ⟨g1, g2, g4, g7, g8⟩; have e0 := (g1.cell 0).trans rfl; have e1 := (g1.cell 1).trans rfl; have e2 := (g1.cell 2).trans rfl; have k3 := (g2.cell 3).trans rfl; clear g1 g2 g4 g7 g8; first | (go_simp; done) | (go_simp; (try go_bits); (try go_simp); rfl) | go_simp)); simp only [Act.put, List.setIfInBounds_toArray, List.set_cons_succ, List.set_cons_zero, List.cons_append, List.nil_append]; apply hK; clear hK K))
  refine phiU_partK (PVal (.agg #[.string (bs addrL), .string (bs cTo)])) rfl rfl ⟨_, rfl⟩ ?_ (fun K hK v hv => ?_)
  · rintro w' ⟨g1, g2, g4, g7, g8⟩ hf hu
    clear hf hu g1 g2 g4 g7 g8
    unfold gives
    go_simp
    refine (saddr_any cTo w').mono ?_
    rintro e w'' ⟨rfl, hb⟩
    exact ⟨_, rfl, rfl, trivial, by rw [rT_o (by decide)]; exact hb⟩
  obtain rfl : v = _ := hv
  simp only [Act.put, List.setIfInBounds_toArray, List.set_cons_succ, List.set_cons_zero, List.cons_append, List.nil_append]
  apply hK
  clear hK K
  repeat (first | (refine phiU_skipK rfl (fun K hK => ?_); simp only [Act.put, List.setIfInBounds_toArray, List.set_cons_succ, List.set_cons_zero, List.cons_append, List.nil_append]; apply hK; clear hK K) | (refine phiU_pureK rfl rfl (fun K hK => ?_); apply Exists.intro; constructor; (focus (rintro w' ⟨g1, g2, g4, g7, g8⟩; have e0 := (g1.cell 0).trans rfl; have e1 := (g1.cell 1).trans rfl; have e2 := (g1.cell 2).trans rfl; have k3 := (g2.cell 3).trans rfl; clear g1 g2 g4 g7 g8; first | (go_simp; done) | (go_simp; (try go_bits); (try go_simp); rfl) | go_simp)); simp only [Act.put, List.setIfInBounds_toArray, List.set_cons_succ, List.set_cons_zero]; apply hK; clear hK K))
  refine phiU_partK (PKidL (fun v => ∃ g, v = Value.agg #[.string (bs addrL), .string (bs cTo), .slice none 0 0, .slice (some ⟨g, 0, none⟩) 1 1, .string ⟨#[]⟩]) w.heap.size wr.heap.size (simpT addrL cTo tt)) rfl rfl ⟨_, 0, rfl⟩ ?_ (fun K hK v hv => ?_)
  · rintro w' ⟨g1, g2, g4, g7, g8⟩ hf hu
    have HG := Lib.hid g8
    clear hf hu g1 g2 g4 g7 g8
    unfold gives
    go_simp
    refine (simple_any addrL cTo tt w').mono ?_
    rintro e w'' ⟨g, rfl, hg, hlt, hk, hb⟩
    exact ⟨_, rfl, ⟨g, rfl⟩, ⟨_, w''.heap.size, rfl, simp_trx (by have := HG.out; omega) hk, Nat.le_refl _⟩, by rw [rT_o (by decide)]; exact hb⟩
  obtain ⟨q9, rfl⟩ := hv
  simp only [Act.put, List.setIfInBounds_toArray, List.set_cons_succ, List.set_cons_zero, List.cons_append, List.nil_append]
  apply hK
  clear hK K
  repeat (first | (refine phiU_skipK rfl (fun K hK => ?_); simp only [Act.put, List.setIfInBounds_toArray, List.set_cons_succ, List.set_cons_zero, List.cons_append, List.nil_append]; apply hK; clear hK K) | (refine phiU_pureK rfl rfl (fun K hK => ?_); apply Exists.intro; constructor; (focus (rintro w' ⟨g1, g2, g4, g7, g8⟩; have e0 := (g1.cell 0).trans rfl; have e1 := (g1.cell 1).trans rfl; have e2 := (g1.cell 2).trans rfl; have k3 := (g2.cell 3).trans rfl; clear g1 g2 g4 g7 g8; first | (go_simp; done) | (go_simp; (try go_bits); (try go_simp); rfl) | go_simp)); simp only [Act.put, List.setIfInBounds_toArray, List.set_cons_succ, List.set_cons_zero, List.cons_append, List.nil_append]; apply hK; clear hK K))
  refine phiU_partK (PVal (.agg #[.string (bs addrL), .string (bs cMessageID)])) rfl rfl ⟨_, rfl⟩ ?_ (fun K hK v hv => ?_)
  · rintro w' ⟨g1, g2, g4, g7, g8⟩ hf hu
    clear hf hu g1 g2 g4 g7 g8
    unfold gives
    go_simp
    refine (saddr_any cMessageID w').mono ?_
    rintro e w'' ⟨rfl, hb⟩
    exact ⟨_, rfl, rfl, trivial, by rw [rT_o (by decide)]; exact hb⟩
  obtain rfl : v = _ := hv
  simp only [Act.put, List.setIfInBounds_toArray, List.set_cons_succ, List.set_cons_zero, List.cons_append, List.nil_append]
  apply hK
  clear hK K
  repeat (first | (refine phiU_skipK rfl (fun K hK => ?_); simp only [Act.put, List.setIfInBounds_toArray, List.set_cons_succ, List.set_cons_zero, List.cons_append, List.nil_append]; apply hK; clear hK K) | (refine phiU_pureK rfl rfl (fun K hK => ?_); apply Exists.intro; constructor; (focus (rintro w' ⟨g1, g2, g4, g7, g8⟩; have e0 := (g1.cell 0).trans rfl; have e1 := (g1.cell 1).trans rfl; have e2 := (g1.cell 2).trans rfl; have k3 := (g2.cell 3).trans rfl; clear g1 g2 g4 g7 g8; first | (go_simp; done) | (go_simp; (try go_bits); (try go_simp); rfl) | go_simp)); simp only [Act.put, List.setIfInBounds_toArray, List.set_cons_succ, List.set_cons_zero]; apply hK; clear hK K))
  refine phiU_partK (PKidL (fun v => ∃ g, v = Value.agg #[.string (bs addrL), .string (bs cMessageID), .slice none 0 0, .slice (some ⟨g, 0, none⟩) 1 1, .string ⟨#[]⟩]) w.heap.size wr.heap.size (simpT addrL cMessageID ii)) rfl rfl ⟨_, 0, rfl⟩ ?_ (fun K hK v hv => ?_)
  · rintro w' ⟨g1, g2, g4, g7, g8⟩ hf hu
    have HG := Lib.hid g8
    clear hf hu g1 g2 g4 g7 g8
    unfold gives
    go_simp
    refine (simple_any addrL cMessageID ii w').mono ?_
    rintro e w'' ⟨g, rfl, hg, hlt, hk, hb⟩
    exact ⟨_, rfl, ⟨g, rfl⟩, ⟨_, w''.heap.size, rfl, simp_trx (by have := HG.out; omega) hk, Nat.le_refl _⟩, by rw [rT_o (by decide)]; exact hb⟩
  obtain ⟨q13, rfl⟩ := hv
  simp only [Act.put, List.setIfInBounds_toArray, List.set_cons_succ, List.set_cons_zero, List.cons_append, List.nil_append]
  apply hK
  clear hK K
  repeat (first | (refine phiU_skipK rfl (fun K hK => ?_); simp only [Act.put, List.setIfInBounds_toArray, List.set_cons_succ, List.set_cons_zero, List.cons_append, List.nil_append]; apply hK; clear hK K) | (refine phiU_pureK rfl rfl (fun K hK => ?_); apply Exists.intro; constructor; (focus (rintro w' ⟨g1, g2, g4, g7, g8⟩; have e0 := (g1.cell 0).trans rfl; have e1 := (g1.cell 1).trans rfl; have e2 := (g1.cell 2).trans rfl; have k3 := (g2.cell 3).trans rfl; clear g1 g2 g4 g7 g8; first | (go_simp; done) | (go_simp; (try go_bits); (try go_simp); rfl) | go_simp)); simp only [Act.put, List.setIfInBounds_toArray, List.set_cons_succ, List.set_cons_zero, List.cons_append, List.nil_append]; apply hK; clear hK K))
  refine phiU_partK (PSl w.heap.size wr.heap.size 44 3 [simpT addrL cAction act, simpT addrL cTo tt, simpT addrL cMessageID ii]) rfl rfl ⟨_, 0, rfl⟩ ?_ (fun K hK v hv => ?_)
  · rintro w' ⟨g1, g2, g4, g7, g8⟩ hf hu
    have f5 := hf (5, fun w1 => (PKidL (fun v => ∃ g, v = Value.agg #[.string (bs addrL), .string (bs cAction), .slice none 0 0, .slice (some ⟨g, 0, none⟩) 1 1, .string ⟨#[]⟩]) w.heap.size wr.heap.size (simpT addrL cAction act)).fact w1 (.agg #[.string (bs addrL), .string (bs cAction), .slice none 0 0, .slice (some ⟨q5, 0, none⟩) 1 1, .string ⟨#[]⟩])) (by simp) (List.contains_iff_mem.1 rfl) rfl
    have f9 := hf (9, fun w1 => (PKidL (fun v => ∃ g, v = Value.agg #[.string (bs addrL), .string (bs cTo), .slice none 0 0, .slice (some ⟨g, 0, none⟩) 1 1, .string ⟨#[]⟩]) w.heap.size wr.heap.size (simpT addrL cTo tt)).fact w1 (.agg #[.string (bs addrL), .string (bs cTo), .slice none 0 0, .slice (some ⟨q9, 0, none⟩) 1 1, .string ⟨#[]⟩])) (by simp) (List.contains_iff_mem.1 rfl) rfl
    have f13 := hf (13, fun w1 => (PKidL (fun v => ∃ g, v = Value.agg #[.string (bs addrL), .string (bs cMessageID), .slice none 0 0, .slice (some ⟨g, 0, none⟩) 1 1, .string ⟨#[]⟩]) w.heap.size wr.heap.size (simpT addrL cMessageID ii)).fact w1 (.agg #[.string (bs addrL), .string (bs cMessageID), .slice none 0 0, .slice (some ⟨q13, 0, none⟩) 1 1, .string ⟨#[]⟩])) (by simp) (List.contains_iff_mem.1 rfl) rfl
    have F5 := Lib.hid f5
    have F9 := Lib.hid f9
    have F13 := Lib.hid f13
    have HG := Lib.hid g8
    clear hf hu f5 f9 f13 g1 g2 g4 g7 g8
    unfold gives
    go_simp
    refine ⟨⟨_, rfl⟩, fun g hg => ?_, by rw [rT_o (by decide)]; exact below_alloc1 _ _⟩
    obtain rfl : w'.heap.size = g := by simpa using hg
    obtain ⟨c5, B5, e5, t5, b5⟩ := F5.out
    injection e5 with e5
    have e5 := congrArg Array.toList e5
    dsimp only at e5
    subst e5
    obtain ⟨c9, B9, e9, t9, b9⟩ := F9.out
    injection e9 with e9
    have e9 := congrArg Array.toList e9
    dsimp only at e9
    subst e9
    obtain ⟨c13, B13, e13, t13, b13⟩ := F13.out
    injection e13 with e13
    have e13 := congrArg Array.toList e13
    dsimp only at e13
    subst e13
    refine ⟨HG.out, [[.string (bs addrL), .string (bs cAction), .slice none 0 0, .slice (some ⟨q5, 0, none⟩) 1 1, .string ⟨#[]⟩], [.string (bs addrL), .string (bs cTo), .slice none 0 0, .slice (some ⟨q9, 0, none⟩) 1 1, .string ⟨#[]⟩], [.string (bs addrL), .string (bs cMessageID), .slice none 0 0, .slice (some ⟨q13, 0, none⟩) 1 1, .string ⟨#[]⟩]], _, Blk.new _ _ _, ?_, Nat.le_refl _⟩
    exact ⟨_, _, rfl, t5.high (below_alloc1 _ _) b5, ⟨_, _, rfl, t9.high (below_alloc1 _ _) b9, ⟨_, _, rfl, t13.high (below_alloc1 _ _) b13, rfl⟩⟩⟩
  obtain ⟨y14, rfl⟩ := hv
  simp only [Act.put, List.setIfInBounds_toArray, List.set_cons_succ, List.set_cons_zero, List.cons_append, List.nil_append]
  apply hK
  clear hK K
  refine phiU_partK (PRowG w.heap.size (g3 + 1) 5 44 3 ([] ++ [simpT addrL cAction act, simpT addrL cTo tt, simpT addrL cMessageID ii])) rfl rfl ⟨_, none, 0, rfl⟩ ?_ (fun K hK v hv => ?_)
  · rintro w' ⟨g1, g2, g4, g7, g8⟩ hf hu
    have f4 := hf (14, fun w1 => (PSl w.heap.size wr.heap.size 44 3 [simpT addrL cAction act, simpT addrL cTo tt, simpT addrL cMessageID ii]).fact w1 (.slice (some ⟨y14, 0, none⟩) 3 3)) (by simp) (List.contains_iff_mem.1 rfl) rfl y14 rfl
    obtain ⟨h4b, css9, B, b4, t4, l4⟩ := f4
    have hu8 : w'.ownsRow (g3 + 1) 44 5 (.slice none 0 0) 0 [] := ⟨rfl, .inl ⟨rfl, rfl⟩⟩
    clear hf hu
    refine gives_appAt (.tmp 8) (.tmp 21) 39 rfl (g3 + 1) 44 i9 (.agg #[.string ⟨#[]⟩, .string ⟨#[]⟩, .slice none 0 0, .slice none 0 0, .string ⟨#[]⟩]) 5 96 Tryz.underlying39 hi9 hy0 hy1 hy2 rfl (by decide) _ _ _ rfl hu8 _ _ _ css9.flatten rfl (by rw [trxl_flen _ _ (k := 2) (by simp [simpT, Tr.nm]) t4]; rfl) (rd_blk b4) (trxl_ones _ _ t4) (by unfold maxLen; omega) (by omega) (by omega) ?_
    intro v2 w2 ho2 hg2 hat2
    obtain ⟨p2, c2, rfl, _, _, _⟩ := owns_rd ho2
    refine ⟨⟨p2, c2, rfl⟩, prow_stepG (css := []) hg2 hat2 (fun g hg => by cases hg) (B0 := wr.heap.size) (by omega) (by omega) (by omega) rfl t4 l4 (by rw [List.flatten_append]; exact ho2), ?_⟩
    rw [rT_at]
    exact ⟨⟨_, hu8⟩, hg2⟩
  obtain ⟨p15, c15, rfl⟩ := hv
  simp only [Act.put, List.setIfInBounds_toArray, List.set_cons_succ, List.set_cons_zero, List.cons_append, List.nil_append]
  apply hK
  clear hK K
  repeat (first | (refine phiU_skipK rfl (fun K hK => ?_); simp only [Act.put, List.setIfInBounds_toArray, List.set_cons_succ, List.set_cons_zero, List.cons_append, List.nil_append]; apply hK; clear hK K) | (refine phiU_pureK rfl rfl (fun K hK => ?_); apply Exists.intro; constructor; (focus (rintro w' ⟨g1, g2, g4, g7, g8⟩; have e0 := (g1.cell 0).trans rfl; have e1 := (g1.cell 1).trans rfl; have e2 := (g1.cell 2).trans rfl; have k3 := (g2.cell 3).trans rfl; clear g1 g2 g4 g7 g8; first | (go_simp; done) | (go_simp; (try go_bits); (try go_simp); rfl) | go_simp)); simp only [Act.put, List.setIfInBounds_toArray, List.set_cons_succ, List.set_cons_zero, List.cons_append, List.nil_append]; apply hK; clear hK K))
  refine phiU_done ?_
  rintro w9 ⟨g1, g2, g4, g7, g8⟩ hf
  obtain ⟨css9, ho9, hk9⟩ := hf (15, fun w1 => (PRowG w.heap.size (g3 + 1) 5 44 3 ([] ++ [simpT addrL cAction act, simpT addrL cTo tt, simpT addrL cMessageID ii])).fact w1 (.slice p15 3 c15)) (by simp) rfl
  have f3 := g2.frozen 3
  have k3 := (g2.cell 3).trans rfl
  have O9 := ((Only.refl g3 w9).set_ 3 (.slice p15 3 c15))
  have R1 := Lib.hid (O9.blk g1 (by omega))
  have R4 := Lib.hid (O9.blk g4 (by omega))
  have R2 := Lib.hid (show Blk (w9.setCell ⟨g3, 3, none⟩ (.slice p15 3 c15)) g3 44 #[.string (bs soapL), .string (bs cHeader), .slice none 0 0, .slice p15 3 c15, .string ⟨#[]⟩] from g2.set_ 3 _)
  have R8 := Lib.hid (g7.setCell (p := ⟨g3, 3, none⟩) (show w.heap.size ≤ g3 by omega) (.slice p15 3 c15))
  have R6 := Lib.hid (O9.owns2 ho9 (by omega))
  have R7 := Lib.hid (hk9.only O9 (fun b hb => by rcases hb with hb | hb; omega; (have := hb.1; omega)))
  rw [show w9.heap.size = (w9.setCell ⟨g3, 3, none⟩ (.slice p15 3 c15)).heap.size from O9.size.symm] at R7
  have HO9S := Lib.hid O9.size
  have S9 := Lib.hid (show wr.heap.size ≤ (w9.setCell ⟨g3, 3, none⟩ (.slice p15 3 c15)).heap.size by rw [O9.size]; exact g8)
  have e3 := (R1.out.cell 3).trans rfl
  have e4 := (R1.out.cell 4).trans rfl
  have e5 := (R1.out.cell 5).trans rfl
  clear hf g1 g2 g4 g7 g8 O9 ho9 hk9
  go_wp2_with fail
  clear f3 k3 e3 e4 e5
  generalize w9.setCell ⟨g3, 3, none⟩ (.slice p15 3 c15) = wN at *
  have hsz9 := S9.out
  have HS4 := Lib.hid (show g3 + 1 ≤ wN.heap.size by omega)
  clear hsz9 hs3 HS3 S9 HO9S
  clear HBW wr
  have G1 := R1; have G2 := R2; have G4 := R4; have G6 := R6; have G7 := R7; have G8 := R8; have HS3 := HS4
  clear R1 R2 R4 R6 R7 R8 HS4
  generalize css9 = css at *
  generalize wN = wr at *
  have HVL := Lib.hid (show ∀ g, (Value.slice p15 3 c15).ownBlock = some g → w.heap.size ≤ g ∧ g < wr.heap.size from fun g hg => ⟨by have := (G6.out.lt g hg).1; omega, (G6.out.lt g hg).2⟩)
  have hs3 := HS3.out
  refine wp_phiU_tail (List.take 11 _) (List.drop 11 _) (List.take_append_drop 11 _).symm (rT 10 (g3 + 1) 5 44 (.slice p15 3 c15) 3) (fun w' => Blk w' w.heap.size 46 #[.string (bs act), .string (bs tt), .string (bs ii), .string (bs (f0 :: fl)), .string (bs (r0 :: rl)), .slice ph hds.length ch, v0, v1, v2, v3, v4] ∧ Blk w' g3 44 #[.string (bs soapL), .string (bs cHeader), .slice none 0 0, .slice p15 3 c15, .string ⟨#[]⟩] ∧ Blk w' (w.heap.size + 1) 44 #[.string ⟨#[]⟩, .string ⟨#[]⟩, .slice none 0 0, .slice none 0 0, .string ⟨#[]⟩] ∧ TrXL w' (BtL w.heap.size (g3 + 1) wr.heap.size (Value.slice p15 3 c15).ownBlock) ([simpT addrL cAction act, simpT addrL cTo tt, simpT addrL cMessageID ii]) css ∧ Below w.heap.size w w' ∧ wr.heap.size ≤ w'.heap.size) [(2, PVal (.agg #[.string (bs addrL), .string (bs cFrom)])), (3, PVal (.agg #[.string (bs addrL), .string (bs cAddress)])), (6, PKidL (fun v => ∃ g, v = Value.agg #[.string (bs addrL), .string (bs cAddress), .slice none 0 0, .slice (some ⟨g, 0, none⟩) 1 1, .string ⟨#[]⟩]) w.heap.size wr.heap.size (simpT addrL cAddress (f0 :: fl))), (7, PSl w.heap.size wr.heap.size 44 1 [simpT addrL cAddress (f0 :: fl)]), (9, PSl w.heap.size wr.heap.size 44 1 [fromT (f0 :: fl)]), (10, PRowG w.heap.size (g3 + 1) 5 44 4 ([simpT addrL cAction act, simpT addrL cTo tt, simpT addrL cMessageID ii] ++ [fromT (f0 :: fl)]))] [(7, [6]), (9, [7]), (10, [2, 3, 6, 7, 9])] [(10, fun w' => w'.ownsRow (g3 + 1) 44 5 (.slice p15 3 c15) 3 css.flatten)] [] (by kernel_rfl) (by kernel_rfl) ?_ ?_ ?_ ?_ ?_ ?_
  · rintro p _ w1' w2' ⟨g1, g2, g4, g6, g7, g8⟩ hR
    exact ⟨rT_blklo hR g1 (by omega), rT_blklo hR g2 (by omega), rT_blklo hR g4 (by omega), rT_trxl hR g6 (fun b hb e => by rcases hb with hb | hb; (have := (HVL.out _ e).1; omega); exact hb.2.2 e), rT_below hR g7 (by omega) (by omega), Nat.le_trans g8 (rT_size hR)⟩
  · intro p hp p' hp' hne hks hns w1' w2' v hI hR hf
    have hv : ∀ g, (Value.slice p15 3 c15).ownBlock = some g → w.heap.size ≤ g ∧ g < wr.heap.size := HVL.out
    simp only [List.mem_cons, List.not_mem_nil, or_false] at hp hp'
    rcases hp with rfl | rfl | rfl | rfl | rfl | rfl
    · trivial
    · trivial
    · exact PKidL_stays hR hv hf
    · exact PSl_stays hR hv hf
    · exact PSl_stays hR hv hf
    · rcases hp' with rfl | rfl | rfl | rfl | rfl | rfl
      · exact absurd (show (2 : Nat) ∈ needs [(7, [6]), (9, [7]), (10, [2, 3, 6, 7, 9])] 10 by decide) hns
      · exact absurd (show (3 : Nat) ∈ needs [(7, [6]), (9, [7]), (10, [2, 3, 6, 7, 9])] 10 by decide) hns
      · exact absurd (show (6 : Nat) ∈ needs [(7, [6]), (9, [7]), (10, [2, 3, 6, 7, 9])] 10 by decide) hns
      · exact absurd (show (7 : Nat) ∈ needs [(7, [6]), (9, [7]), (10, [2, 3, 6, 7, 9])] 10 by decide) hns
      · exact absurd (show (9 : Nat) ∈ needs [(7, [6]), (9, [7]), (10, [2, 3, 6, 7, 9])] 10 by decide) hns
      · exact absurd rfl hne
  · intro p hp u hu hne w1' w2' hI hR hf
    simp only [List.mem_cons, List.not_mem_nil, or_false] at hp hu
    subst hu
    rcases hp with rfl | rfl | rfl | rfl | rfl | rfl
    · have hR := rT_o (show (2 : Nat) ≠ 10 by decide) ▸ hR
      exact owns_below hf hR
    · have hR := rT_o (show (3 : Nat) ≠ 10 by decide) ▸ hR
      exact owns_below hf hR
    · have hR := rT_o (show (6 : Nat) ≠ 10 by decide) ▸ hR
      exact owns_below hf hR
    · have hR := rT_o (show (7 : Nat) ≠ 10 by decide) ▸ hR
      exact owns_below hf hR
    · have hR := rT_o (show (9 : Nat) ≠ 10 by decide) ▸ hR
      exact owns_below hf hR
    · exact absurd rfl hne
  · intro u hu
    simp only [List.mem_cons, List.not_mem_nil, or_false] at hu
    subst hu
    exact owns_below G6.out (Below.refl _ _).drew
  · exact ⟨G1.out, G2.out, G4.out, G7.out.below (Below.refl _ _).drew, G8.out.drew, Nat.le_refl _⟩
  simp only [List.take_succ_cons, List.take_zero, List.drop_succ_cons, List.drop_zero]
  clear G1 G2 G4 G6 G7 G8
  repeat (first | (refine phiU_skipK rfl (fun K hK => ?_); simp only [Act.put, List.setIfInBounds_toArray, List.set_cons_succ, List.set_cons_zero, List.cons_append, List.nil_append]; apply hK; clear hK K) | (refine phiU_pureK rfl rfl (fun K hK => ?_); apply Exists.intro; constructor; (focus (rintro w' ⟨g1, g2, g4, g6, g7, g8⟩; have e3 := (g1.cell 3).trans rfl; have k3 := (g2.cell 3).trans rfl; clear g1 g2 g4 g6 g7 g8; first | (go_simp; done) | (go_simp; (try go_bits); (try go_simp); rfl) | go_simp)); simp only [Act.put, List.setIfInBounds_toArray, List.set_cons_succ, List.set_cons_zero]; apply hK; clear hK K))
  refine phiU_partK (PVal (.agg #[.string (bs addrL), .string (bs cFrom)])) rfl rfl ⟨_, rfl⟩ ?_ (fun K hK v hv => ?_)
  · rintro w' ⟨g1, g2, g4, g6, g7, g8⟩ hf hu
    clear hf hu g1 g2 g4 g6 g7 g8
    unfold gives
    go_simp
    refine (saddr_any cFrom w').mono ?_
    rintro e w'' ⟨rfl, hb⟩
    exact ⟨_, rfl, rfl, trivial, by rw [rT_o (by decide)]; exact hb⟩
  obtain rfl : v = _ := hv
  simp only [Act.put, List.setIfInBounds_toArray, List.set_cons_succ, List.set_cons_zero, List.nil_append]
  apply hK
  clear hK K
  refine phiU_partK (PVal (.agg #[.string (bs addrL), .string (bs cAddress)])) rfl rfl ⟨_, rfl⟩ ?_ (fun K hK v hv => ?_)
  · rintro w' ⟨g1, g2, g4, g6, g7, g8⟩ hf hu
    clear hf hu g1 g2 g4 g6 g7 g8
    unfold gives
    go_simp
    refine (saddr_any cAddress w').mono ?_
    rintro e w'' ⟨rfl, hb⟩
    exact ⟨_, rfl, rfl, trivial, by rw [rT_o (by decide)]; exact hb⟩
  obtain rfl : v = _ := hv
  simp only [Act.put, List.setIfInBounds_toArray, List.set_cons_succ, List.set_cons_zero, List.cons_append, List.nil_append]
  apply hK
  clear hK K
  repeat (first | (refine phiU_skipK rfl (fun K hK => ?_); simp only [Act.put, List.setIfInBounds_toArray, List.set_cons_succ, List.set_cons_zero, List.cons_append, List.nil_append]; apply hK; clear hK K) | (refine phiU_pureK rfl rfl (fun K hK => ?_); apply Exists.intro; constructor; (focus (rintro w' ⟨g1, g2, g4, g6, g7, g8⟩; have e3 := (g1.cell 3).trans rfl; have k3 := (g2.cell 3).trans rfl; clear g1 g2 g4 g6 g7 g8; first | (go_simp; done) | (go_simp; (try go_bits); (try go_simp); rfl) | go_simp)); simp only [Act.put, List.setIfInBounds_toArray, List.set_cons_succ, List.set_cons_zero]; apply hK; clear hK K))
  refine phiU_partK (PKidL (fun v => ∃ g, v = Value.agg #[.string (bs addrL), .string (bs cAddress), .slice none 0 0, .slice (some ⟨g, 0, none⟩) 1 1, .string ⟨#[]⟩]) w.heap.size wr.heap.size (simpT addrL cAddress (f0 :: fl))) rfl rfl ⟨_, 0, rfl⟩ ?_ (fun K hK v hv => ?_)
  · rintro w' ⟨g1, g2, g4, g6, g7, g8⟩ hf hu
    have HG := Lib.hid g8
    clear hf hu g1 g2 g4 g6 g7 g8
    unfold gives
    go_simp
    refine (simple_any addrL cAddress (f0 :: fl) w').mono ?_
    rintro e w'' ⟨g, rfl, hg, hlt, hk, hb⟩
    exact ⟨_, rfl, ⟨g, rfl⟩, ⟨_, w''.heap.size, rfl, simp_trx (by have := HG.out; omega) hk, Nat.le_refl _⟩, by rw [rT_o (by decide)]; exact hb⟩
  obtain ⟨q6, rfl⟩ := hv
  simp only [Act.put, List.setIfInBounds_toArray, List.set_cons_succ, List.set_cons_zero, List.cons_append, List.nil_append]
  apply hK
  clear hK K
  refine phiU_partK (PSl w.heap.size wr.heap.size 44 1 [simpT addrL cAddress (f0 :: fl)]) rfl rfl ⟨_, 0, rfl⟩ ?_ (fun K hK v hv => ?_)
  · rintro w' ⟨g1, g2, g4, g6, g7, g8⟩ hf hu
    have f6 := hf (6, fun w1 => (PKidL (fun v => ∃ g, v = Value.agg #[.string (bs addrL), .string (bs cAddress), .slice none 0 0, .slice (some ⟨g, 0, none⟩) 1 1, .string ⟨#[]⟩]) w.heap.size wr.heap.size (simpT addrL cAddress (f0 :: fl))).fact w1 (.agg #[.string (bs addrL), .string (bs cAddress), .slice none 0 0, .slice (some ⟨q6, 0, none⟩) 1 1, .string ⟨#[]⟩])) (by simp) (List.contains_iff_mem.1 rfl) rfl
    have F6 := Lib.hid f6
    have HG := Lib.hid g8
    clear hf hu f6 g1 g2 g4 g6 g7 g8
    unfold gives
    go_simp
    refine ⟨⟨_, rfl⟩, fun g hg => ?_, by rw [rT_o (by decide)]; exact below_alloc1 _ _⟩
    obtain rfl : w'.heap.size = g := by simpa using hg
    obtain ⟨c6, B6, e6, t6, b6⟩ := F6.out
    injection e6 with e6
    have e6 := congrArg Array.toList e6
    dsimp only at e6
    subst e6
    refine ⟨HG.out, [[.string (bs addrL), .string (bs cAddress), .slice none 0 0, .slice (some ⟨q6, 0, none⟩) 1 1, .string ⟨#[]⟩]], _, Blk.new _ _ _, ?_, Nat.le_refl _⟩
    exact ⟨_, _, rfl, t6.high (below_alloc1 _ _) b6, rfl⟩
  obtain ⟨y7, rfl⟩ := hv
  simp only [Act.put, List.setIfInBounds_toArray, List.set_cons_succ, List.set_cons_zero, List.cons_append, List.nil_append]
  apply hK
  clear hK K
  repeat (first | (refine phiU_skipK rfl (fun K hK => ?_); simp only [Act.put, List.setIfInBounds_toArray, List.set_cons_succ, List.set_cons_zero, List.cons_append, List.nil_append]; apply hK; clear hK K) | (refine phiU_pureK rfl rfl (fun K hK => ?_); apply Exists.intro; constructor; (focus (rintro w' ⟨g1, g2, g4, g6, g7, g8⟩; have e3 := (g1.cell 3).trans rfl; have k3 := (g2.cell 3).trans rfl; clear g1 g2 g4 g6 g7 g8; first | (go_simp; done) | (go_simp; (try go_bits); (try go_simp); rfl) | go_simp)); simp only [Act.put, List.setIfInBounds_toArray, List.set_cons_succ, List.set_cons_zero]; apply hK; clear hK K))
  refine phiU_partK (PSl w.heap.size wr.heap.size 44 1 [fromT (f0 :: fl)]) rfl rfl ⟨_, 0, rfl⟩ ?_ (fun K hK v hv => ?_)
  · rintro w' ⟨g1, g2, g4, g6, g7, g8⟩ hf hu
    have f7 := hf (7, fun w1 => (PSl w.heap.size wr.heap.size 44 1 [simpT addrL cAddress (f0 :: fl)]).fact w1 (.slice (some ⟨y7, 0, none⟩) 1 1)) (by simp) (List.contains_iff_mem.1 rfl) rfl y7 rfl
    have F := Lib.hid f7
    have HG := Lib.hid g8
    clear hf hu f7 g1 g2 g4 g6 g7 g8
    unfold gives
    go_simp
    refine ⟨⟨_, rfl⟩, fun g hg => ?_, by rw [rT_o (by decide)]; exact below_alloc1 _ _⟩
    obtain rfl : w'.heap.size = g := by simpa using hg
    obtain ⟨h1, css, B, b4, t4, l4⟩ := F.out
    refine ⟨HG.out, [[.string (bs addrL), .string (bs cFrom), .slice none 0 0, .slice (some ⟨y7, 0, none⟩) 1 1, .string ⟨#[]⟩]], _, Blk.new _ _ _, TrXL.one ?_, Nat.le_refl _⟩
    exact node_trx (nm := [addrL, cFrom]) (tx := []) h1 (b4.below (below_alloc1 _ _) b4.lt) (t4.high (below_alloc1 _ _) l4) rfl (by decide)
  obtain ⟨y9, rfl⟩ := hv
  simp only [Act.put, List.setIfInBounds_toArray, List.set_cons_succ, List.set_cons_zero, List.cons_append, List.nil_append]
  apply hK
  clear hK K
  refine phiU_partK (PRowG w.heap.size (g3 + 1) 5 44 4 ([simpT addrL cAction act, simpT addrL cTo tt, simpT addrL cMessageID ii] ++ [fromT (f0 :: fl)])) rfl rfl ⟨_, none, 0, rfl⟩ ?_ (fun K hK v hv => ?_)
  · rintro w' ⟨g1, g2, g4, g6, g7, g8⟩ hf hu
    have f4 := hf (9, fun w1 => (PSl w.heap.size wr.heap.size 44 1 [fromT (f0 :: fl)]).fact w1 (.slice (some ⟨y9, 0, none⟩) 1 1)) (by simp) (List.contains_iff_mem.1 rfl) rfl y9 rfl
    obtain ⟨h4b, css9, B, b4, t4, l4⟩ := f4
    have hu8 : w'.ownsRow (g3 + 1) 44 5 (.slice p15 3 c15) 3 css.flatten := hu (10, fun w' => w'.ownsRow (g3 + 1) 44 5 (.slice p15 3 c15) 3 css.flatten) (by simp) rfl
    clear hf hu
    refine gives_appAt (.tmp 28) (.tmp 36) 39 rfl (g3 + 1) 44 i9 (.agg #[.string ⟨#[]⟩, .string ⟨#[]⟩, .slice none 0 0, .slice none 0 0, .string ⟨#[]⟩]) 5 96 Tryz.underlying39 hi9 hy0 hy1 hy2 rfl (by decide) _ _ _ rfl hu8 _ _ _ css9.flatten rfl (by rw [trxl_flen _ _ (k := 2) (by simp [simpT, fromT, Tr.nm]) t4]; rfl) (rd_blk b4) (trxl_ones _ _ t4) (by unfold maxLen; omega) (by omega) (by omega) ?_
    intro v2 w2 ho2 hg2 hat2
    obtain ⟨p2, c2, rfl, _, _, _⟩ := owns_rd ho2
    refine ⟨⟨p2, c2, rfl⟩, prow_stepG (css := css) hg2 hat2 HVL.out (B0 := wr.heap.size) (by omega) (by omega) (by omega) g6 t4 l4 (by rw [List.flatten_append]; exact ho2), ?_⟩
    rw [rT_at]
    exact ⟨⟨_, hu8⟩, hg2⟩
  obtain ⟨p10, c10, rfl⟩ := hv
  simp only [Act.put, List.setIfInBounds_toArray, List.set_cons_succ, List.set_cons_zero, List.cons_append, List.nil_append]
  apply hK
  clear hK K
  repeat (first | (refine phiU_skipK rfl (fun K hK => ?_); simp only [Act.put, List.setIfInBounds_toArray, List.set_cons_succ, List.set_cons_zero, List.cons_append, List.nil_append]; apply hK; clear hK K) | (refine phiU_pureK rfl rfl (fun K hK => ?_); apply Exists.intro; constructor; (focus (rintro w' ⟨g1, g2, g4, g6, g7, g8⟩; have e3 := (g1.cell 3).trans rfl; have k3 := (g2.cell 3).trans rfl; clear g1 g2 g4 g6 g7 g8; first | (go_simp; done) | (go_simp; (try go_bits); (try go_simp); rfl) | go_simp)); simp only [Act.put, List.setIfInBounds_toArray, List.set_cons_succ, List.set_cons_zero, List.cons_append, List.nil_append]; apply hK; clear hK K))
  refine phiU_done ?_
  rintro w9 ⟨g1, g2, g4, g6, g7, g8⟩ hf
  obtain ⟨css9, ho9, hk9⟩ := hf (10, fun w1 => (PRowG w.heap.size (g3 + 1) 5 44 4 ([simpT addrL cAction act, simpT addrL cTo tt, simpT addrL cMessageID ii] ++ [fromT (f0 :: fl)])).fact w1 (.slice p10 4 c10)) (by simp) rfl
  have f3 := g2.frozen 3
  have k3 := (g2.cell 3).trans rfl
  have O9 := ((Only.refl g3 w9).set_ 3 (.slice p10 4 c10))
  have R1 := Lib.hid (O9.blk g1 (by omega))
  have R4 := Lib.hid (O9.blk g4 (by omega))
  have R2 := Lib.hid (show Blk (w9.setCell ⟨g3, 3, none⟩ (.slice p10 4 c10)) g3 44 #[.string (bs soapL), .string (bs cHeader), .slice none 0 0, .slice p10 4 c10, .string ⟨#[]⟩] from g2.set_ 3 _)
  have R8 := Lib.hid (g7.setCell (p := ⟨g3, 3, none⟩) (show w.heap.size ≤ g3 by omega) (.slice p10 4 c10))
  have R6 := Lib.hid (O9.owns2 ho9 (by omega))
  have R7 := Lib.hid (hk9.only O9 (fun b hb => by rcases hb with hb | hb; omega; (have := hb.1; omega)))
  rw [show w9.heap.size = (w9.setCell ⟨g3, 3, none⟩ (.slice p10 4 c10)).heap.size from O9.size.symm] at R7
  have HO9S := Lib.hid O9.size
  have S9 := Lib.hid (show wr.heap.size ≤ (w9.setCell ⟨g3, 3, none⟩ (.slice p10 4 c10)).heap.size by rw [O9.size]; exact g8)
  have e3 := (R1.out.cell 3).trans rfl
  have e4 := (R1.out.cell 4).trans rfl
  have e5 := (R1.out.cell 5).trans rfl
  clear hf g1 g2 g4 g6 g7 g8 O9 ho9 hk9 HVL
  go_wp2_with fail
  clear f3 k3 e3 e4 e5
  generalize w9.setCell ⟨g3, 3, none⟩ (.slice p10 4 c10) = wN at *
  have hsz9 := S9.out
  have HS4 := Lib.hid (show g3 + 1 ≤ wN.heap.size by omega)
  clear hsz9 hs3 HS3 S9 HO9S
  clear wr
  have G1 := R1; have G2 := R2; have G4 := R4; have G6 := R6; have G7 := R7; have G8 := R8; have HS3 := HS4
  clear R1 R2 R4 R6 R7 R8 HS4
  generalize css9 = css at *
  generalize wN = wr at *
  have HVL := Lib.hid (show ∀ g, (Value.slice p10 4 c10).ownBlock = some g → w.heap.size ≤ g ∧ g < wr.heap.size from fun g hg => ⟨by have := (G6.out.lt g hg).1; omega, (G6.out.lt g hg).2⟩)
  have hs3 := HS3.out
  refine wp_phiU_tail (List.take 8 _) (List.drop 8 _) (List.take_append_drop 8 _).symm (rT 7 (g3 + 1) 5 44 (.slice p10 4 c10) 4) (fun w' => Blk w' w.heap.size 46 #[.string (bs act), .string (bs tt), .string (bs ii), .string (bs (f0 :: fl)), .string (bs (r0 :: rl)), .slice ph hds.length ch, v0, v1, v2, v3, v4] ∧ Blk w' g3 44 #[.string (bs soapL), .string (bs cHeader), .slice none 0 0, .slice p10 4 c10, .string ⟨#[]⟩] ∧ Blk w' (w.heap.size + 1) 44 #[.string ⟨#[]⟩, .string ⟨#[]⟩, .slice none 0 0, .slice none 0 0, .string ⟨#[]⟩] ∧ TrXL w' (BtL w.heap.size (g3 + 1) wr.heap.size (Value.slice p10 4 c10).ownBlock) (([simpT addrL cAction act, simpT addrL cTo tt, simpT addrL cMessageID ii] ++ [fromT (f0 :: fl)])) css ∧ Below w.heap.size w w' ∧ wr.heap.size ≤ w'.heap.size) [(2, PVal (.agg #[.string (bs addrL), .string (bs cRelatesTo)])), (5, PKidL (fun v => ∃ g, v = Value.agg #[.string (bs addrL), .string (bs cRelatesTo), .slice none 0 0, .slice (some ⟨g, 0, none⟩) 1 1, .string ⟨#[]⟩]) w.heap.size wr.heap.size (simpT addrL cRelatesTo (r0 :: rl))), (6, PSl w.heap.size wr.heap.size 44 1 [simpT addrL cRelatesTo (r0 :: rl)]), (7, PRowG w.heap.size (g3 + 1) 5 44 5 (([simpT addrL cAction act, simpT addrL cTo tt, simpT addrL cMessageID ii] ++ [fromT (f0 :: fl)]) ++ [simpT addrL cRelatesTo (r0 :: rl)]))] [(6, [5]), (7, [2, 5, 6])] [(7, fun w' => w'.ownsRow (g3 + 1) 44 5 (.slice p10 4 c10) 4 css.flatten)] [] (by kernel_rfl) (by kernel_rfl) ?_ ?_ ?_ ?_ ?_ ?_
  · rintro p _ w1' w2' ⟨g1, g2, g4, g6, g7, g8⟩ hR
    exact ⟨rT_blklo hR g1 (by omega), rT_blklo hR g2 (by omega), rT_blklo hR g4 (by omega), rT_trxl hR g6 (fun b hb e => by rcases hb with hb | hb; (have := (HVL.out _ e).1; omega); exact hb.2.2 e), rT_below hR g7 (by omega) (by omega), Nat.le_trans g8 (rT_size hR)⟩
  · intro p hp p' hp' hne hks hns w1' w2' v hI hR hf
    have hv : ∀ g, (Value.slice p10 4 c10).ownBlock = some g → w.heap.size ≤ g ∧ g < wr.heap.size := HVL.out
    simp only [List.mem_cons, List.not_mem_nil, or_false] at hp hp'
    rcases hp with rfl | rfl | rfl | rfl
    · trivial
    · exact PKidL_stays hR hv hf
    · exact PSl_stays hR hv hf
    · rcases hp' with rfl | rfl | rfl | rfl
      · exact absurd (show (2 : Nat) ∈ needs [(6, [5]), (7, [2, 5, 6])] 7 by decide) hns
      · exact absurd (show (5 : Nat) ∈ needs [(6, [5]), (7, [2, 5, 6])] 7 by decide) hns
      · exact absurd (show (6 : Nat) ∈ needs [(6, [5]), (7, [2, 5, 6])] 7 by decide) hns
      · exact absurd rfl hne
  · intro p hp u hu hne w1' w2' hI hR hf
    simp only [List.mem_cons, List.not_mem_nil, or_false] at hp hu
    subst hu
    rcases hp with rfl | rfl | rfl | rfl
    · have hR := rT_o (show (2 : Nat) ≠ 7 by decide) ▸ hR
      exact owns_below hf hR
    · have hR := rT_o (show (5 : Nat) ≠ 7 by decide) ▸ hR
      exact owns_below hf hR
    · have hR := rT_o (show (6 : Nat) ≠ 7 by decide) ▸ hR
      exact owns_below hf hR
    · exact absurd rfl hne
  · intro u hu
    simp only [List.mem_cons, List.not_mem_nil, or_false] at hu
    subst hu
    exact owns_below G6.out (Below.refl _ _).drew
  · exact ⟨G1.out, G2.out, G4.out, G7.out.below (Below.refl _ _).drew, G8.out.drew, Nat.le_refl _⟩
  simp only [List.take_succ_cons, List.take_zero, List.drop_succ_cons, List.drop_zero]
  clear G1 G2 G4 G6 G7 G8
  repeat (first | (refine phiU_skipK rfl (fun K hK => ?_); simp only [Act.put, List.setIfInBounds_toArray, List.set_cons_succ, List.set_cons_zero, List.cons_append, List.nil_append]; apply hK; clear hK K) | (refine phiU_pureK rfl rfl (fun K hK => ?_); apply Exists.intro; constructor; (focus (rintro w' ⟨g1, g2, g4, g6, g7, g8⟩; have e4 := (g1.cell 4).trans rfl; have k3 := (g2.cell 3).trans rfl; clear g1 g2 g4 g6 g7 g8; first | (go_simp; done) | (go_simp; (try go_bits); (try go_simp); rfl) | go_simp)); simp only [Act.put, List.setIfInBounds_toArray, List.set_cons_succ, List.set_cons_zero]; apply hK; clear hK K))
  refine phiU_partK (PVal (.agg #[.string (bs addrL), .string (bs cRelatesTo)])) rfl rfl ⟨_, rfl⟩ ?_ (fun K hK v hv => ?_)
  · rintro w' ⟨g1, g2, g4, g6, g7, g8⟩ hf hu
    clear hf hu g1 g2 g4 g6 g7 g8
    unfold gives
    go_simp
    refine (saddr_any cRelatesTo w').mono ?_
    rintro e w'' ⟨rfl, hb⟩
    exact ⟨_, rfl, rfl, trivial, by rw [rT_o (by decide)]; exact hb⟩
  obtain rfl : v = _ := hv
  simp only [Act.put, List.setIfInBounds_toArray, List.set_cons_succ, List.set_cons_zero, List.nil_append]
  apply hK
  clear hK K
  repeat (first | (refine phiU_skipK rfl (fun K hK => ?_); simp only [Act.put, List.setIfInBounds_toArray, List.set_cons_succ, List.set_cons_zero, List.cons_append, List.nil_append]; apply hK; clear hK K) | (refine phiU_pureK rfl rfl (fun K hK => ?_); apply Exists.intro; constructor; (focus (rintro w' ⟨g1, g2, g4, g6, g7, g8⟩; have e4 := (g1.cell 4).trans rfl; have k3 := (g2.cell 3).trans rfl; clear g1 g2 g4 g6 g7 g8; first | (go_simp; done) | (go_simp; (try go_bits); (try go_simp); rfl) | go_simp)); simp only [Act.put, List.setIfInBounds_toArray, List.set_cons_succ, List.set_cons_zero]; apply hK; clear hK K))
  refine phiU_partK (PKidL (fun v => ∃ g, v = Value.agg #[.string (bs addrL), .string (bs cRelatesTo), .slice none 0 0, .slice (some ⟨g, 0, none⟩) 1 1, .string ⟨#[]⟩]) w.heap.size wr.heap.size (simpT addrL cRelatesTo (r0 :: rl))) rfl rfl ⟨_, 0, rfl⟩ ?_ (fun K hK v hv => ?_)
  · rintro w' ⟨g1, g2, g4, g6, g7, g8⟩ hf hu
    have HG := Lib.hid g8
    clear hf hu g1 g2 g4 g6 g7 g8
    unfold gives
    go_simp
    refine (simple_any addrL cRelatesTo (r0 :: rl) w').mono ?_
    rintro e w'' ⟨g, rfl, hg, hlt, hk, hb⟩
    exact ⟨_, rfl, ⟨g, rfl⟩, ⟨_, w''.heap.size, rfl, simp_trx (by have := HG.out; omega) hk, Nat.le_refl _⟩, by rw [rT_o (by decide)]; exact hb⟩
  obtain ⟨q5, rfl⟩ := hv
  simp only [Act.put, List.setIfInBounds_toArray, List.set_cons_succ, List.set_cons_zero, List.cons_append, List.nil_append]
  apply hK
  clear hK K
  refine phiU_partK (PSl w.heap.size wr.heap.size 44 1 [simpT addrL cRelatesTo (r0 :: rl)]) rfl rfl ⟨_, 0, rfl⟩ ?_ (fun K hK v hv => ?_)
  · rintro w' ⟨g1, g2, g4, g6, g7, g8⟩ hf hu
    have f5 := hf (5, fun w1 => (PKidL (fun v => ∃ g, v = Value.agg #[.string (bs addrL), .string (bs cRelatesTo), .slice none 0 0, .slice (some ⟨g, 0, none⟩) 1 1, .string ⟨#[]⟩]) w.heap.size wr.heap.size (simpT addrL cRelatesTo (r0 :: rl))).fact w1 (.agg #[.string (bs addrL), .string (bs cRelatesTo), .slice none 0 0, .slice (some ⟨q5, 0, none⟩) 1 1, .string ⟨#[]⟩])) (by simp) (List.contains_iff_mem.1 rfl) rfl
    have F5 := Lib.hid f5
    have HG := Lib.hid g8
    clear hf hu f5 g1 g2 g4 g6 g7 g8
    unfold gives
    go_simp
    refine ⟨⟨_, rfl⟩, fun g hg => ?_, by rw [rT_o (by decide)]; exact below_alloc1 _ _⟩
    obtain rfl : w'.heap.size = g := by simpa using hg
    obtain ⟨c5, B5, e5, t5, b5⟩ := F5.out
    injection e5 with e5
    have e5 := congrArg Array.toList e5
    dsimp only at e5
    subst e5
    refine ⟨HG.out, [[.string (bs addrL), .string (bs cRelatesTo), .slice none 0 0, .slice (some ⟨q5, 0, none⟩) 1 1, .string ⟨#[]⟩]], _, Blk.new _ _ _, ?_, Nat.le_refl _⟩
    exact ⟨_, _, rfl, t5.high (below_alloc1 _ _) b5, rfl⟩
  obtain ⟨y6, rfl⟩ := hv
  simp only [Act.put, List.setIfInBounds_toArray, List.set_cons_succ, List.set_cons_zero, List.cons_append, List.nil_append]
  apply hK
  clear hK K
  refine phiU_partK (PRowG w.heap.size (g3 + 1) 5 44 5 (([simpT addrL cAction act, simpT addrL cTo tt, simpT addrL cMessageID ii] ++ [fromT (f0 :: fl)]) ++ [simpT addrL cRelatesTo (r0 :: rl)])) rfl rfl ⟨_, none, 0, rfl⟩ ?_ (fun K hK v hv => ?_)
  · rintro w' ⟨g1, g2, g4, g6, g7, g8⟩ hf hu
    have f4 := hf (6, fun w1 => (PSl w.heap.size wr.heap.size 44 1 [simpT addrL cRelatesTo (r0 :: rl)]).fact w1 (.slice (some ⟨y6, 0, none⟩) 1 1)) (by simp) (List.contains_iff_mem.1 rfl) rfl y6 rfl
    obtain ⟨h4b, css9, B, b4, t4, l4⟩ := f4
    have hu8 : w'.ownsRow (g3 + 1) 44 5 (.slice p10 4 c10) 4 css.flatten := hu (7, fun w' => w'.ownsRow (g3 + 1) 44 5 (.slice p10 4 c10) 4 css.flatten) (by simp) rfl
    clear hf hu
    refine gives_appAt (.tmp 43) (.tmp 48) 39 rfl (g3 + 1) 44 i9 (.agg #[.string ⟨#[]⟩, .string ⟨#[]⟩, .slice none 0 0, .slice none 0 0, .string ⟨#[]⟩]) 5 96 Tryz.underlying39 hi9 hy0 hy1 hy2 rfl (by decide) _ _ _ rfl hu8 _ _ _ css9.flatten rfl (by rw [trxl_flen _ _ (k := 2) (by simp [simpT, Tr.nm]) t4]; rfl) (rd_blk b4) (trxl_ones _ _ t4) (by unfold maxLen; omega) (by omega) (by omega) ?_
    intro v2 w2 ho2 hg2 hat2
    obtain ⟨p2, c2, rfl, _, _, _⟩ := owns_rd ho2
    refine ⟨⟨p2, c2, rfl⟩, prow_stepG (css := css) hg2 hat2 HVL.out (B0 := wr.heap.size) (by omega) (by omega) (by omega) g6 t4 l4 (by rw [List.flatten_append]; exact ho2), ?_⟩
    rw [rT_at]
    exact ⟨⟨_, hu8⟩, hg2⟩
  obtain ⟨p7, c7, rfl⟩ := hv
  simp only [Act.put, List.setIfInBounds_toArray, List.set_cons_succ, List.set_cons_zero, List.cons_append, List.nil_append]
  apply hK
  clear hK K
  repeat (first | (refine phiU_skipK rfl (fun K hK => ?_); simp only [Act.put, List.setIfInBounds_toArray, List.set_cons_succ, List.set_cons_zero, List.cons_append, List.nil_append]; apply hK; clear hK K) | (refine phiU_pureK rfl rfl (fun K hK => ?_); apply Exists.intro; constructor; (focus (rintro w' ⟨g1, g2, g4, g6, g7, g8⟩; have e4 := (g1.cell 4).trans rfl; have k3 := (g2.cell 3).trans rfl; clear g1 g2 g4 g6 g7 g8; first | (go_simp; done) | (go_simp; (try go_bits); (try go_simp); rfl) | go_simp)); simp only [Act.put, List.setIfInBounds_toArray, List.set_cons_succ, List.set_cons_zero, List.cons_append, List.nil_append]; apply hK; clear hK K))
  refine phiU_done ?_
  rintro w9 ⟨g1, g2, g4, g6, g7, g8⟩ hf
  obtain ⟨css9, ho9, hk9⟩ := hf (7, fun w1 => (PRowG w.heap.size (g3 + 1) 5 44 5 (([simpT addrL cAction act, simpT addrL cTo tt, simpT addrL cMessageID ii] ++ [fromT (f0 :: fl)]) ++ [simpT addrL cRelatesTo (r0 :: rl)])).fact w1 (.slice p7 5 c7)) (by simp) rfl
  have f3 := g2.frozen 3
  have k3 := (g2.cell 3).trans rfl
  have O9 := ((Only.refl g3 w9).set_ 3 (.slice p7 5 c7))
  have R1 := Lib.hid (O9.blk g1 (by omega))
  have R4 := Lib.hid (O9.blk g4 (by omega))
  have R2 := Lib.hid (show Blk (w9.setCell ⟨g3, 3, none⟩ (.slice p7 5 c7)) g3 44 #[.string (bs soapL), .string (bs cHeader), .slice none 0 0, .slice p7 5 c7, .string ⟨#[]⟩] from g2.set_ 3 _)
  have R8 := Lib.hid (g7.setCell (p := ⟨g3, 3, none⟩) (show w.heap.size ≤ g3 by omega) (.slice p7 5 c7))
  have R6 := Lib.hid (O9.owns2 ho9 (by omega))
  have R7 := Lib.hid (hk9.only O9 (fun b hb => by rcases hb with hb | hb; omega; (have := hb.1; omega)))
  rw [show w9.heap.size = (w9.setCell ⟨g3, 3, none⟩ (.slice p7 5 c7)).heap.size from O9.size.symm] at R7
  have HO9S := Lib.hid O9.size
  have S9 := Lib.hid (show wr.heap.size ≤ (w9.setCell ⟨g3, 3, none⟩ (.slice p7 5 c7)).heap.size by rw [O9.size]; exact g8)
  have e3 := (R1.out.cell 3).trans rfl
  have e4 := (R1.out.cell 4).trans rfl
  have e5 := (R1.out.cell 5).trans rfl
  clear hf g1 g2 g4 g6 g7 g8 O9 ho9 hk9 HVL
  have hs9 := S9.out
  have HRW := Lib.hid (HRD.out.keep (Below.keeps R8.out))
  have HHW := Lib.hid (TrXL.keepP (fun a v _ hv => Below.keeps R8.out a v hv) _ _ HH.out)
  have HFL := Lib.hid (show cssH.flatten.length = hds.length * 5 from trxl_flen _ _ HOK.out HH.out)
  have HON := Lib.hid (trxl_ones _ _ HH.out)
  have HVL := Lib.hid (show ∀ g, (Value.slice p7 5 c7).ownBlock = some g → w.heap.size ≤ g ∧ g < (w9.setCell ⟨g3, 3, none⟩ (.slice p7 5 c7)).heap.size from fun g hg => ⟨by have := (R6.out.lt g hg).1; omega, (R6.out.lt g hg).2⟩)
  have hlm := HL.out
  go_wp2_with (at_builtin; refine wpList_appAt (.tmp 52) (.tmp 54) 39 rfl rfl (g3 + 1) 44 i9 (.agg #[.string ⟨#[]⟩, .string ⟨#[]⟩, .slice none 0 0, .slice none 0 0, .string ⟨#[]⟩]) 5 96 Tryz.underlying39 hi9 hy0 hy1 hy2 rfl (by decide) _ _ _ rfl R6.out _ _ _ cssH.flatten rfl HFL.out HRW.out HON.out (by unfold maxLen; omega) (by omega) (by omega) ?_)
  intro v7 w7 ho7 hg7 hat7
  rw [← HO9S.out] at hat7
  clear f3 k3 e3 e4 e5
  generalize (w9.setCell ⟨g3, 3, none⟩ (.slice p7 5 c7)) = wS at *
  have hR7 : rT 0 (g3 + 1) 5 44 (.slice p7 5 c7) 5 0 wS w7 := by rw [rT_at]; exact ⟨⟨_, R6.out⟩, hg7⟩
  obtain ⟨cssA, hoA, hkA⟩ : (PRowG w.heap.size (g3 + 1) 5 44 (5 + hds.length) ((([simpT addrL cAction act, simpT addrL cTo tt, simpT addrL cMessageID ii] ++ [fromT (f0 :: fl)]) ++ [simpT addrL cRelatesTo (r0 :: rl)]) ++ hds)).fact w7 v7 := prow_stepG (css := css9) (dss := cssH) (B := wS.heap.size) hg7 hat7 HVL.out (B0 := wS.heap.size) (by omega) (Nat.le_refl _) (by omega) R7.out (TrXL.imp (fun b hb => .inl hb) _ _ HHW.out) (Nat.le_refl _) (by rw [List.flatten_append]; exact ho7)
  obtain ⟨pN, cN, rfl, _, _, _⟩ := owns_rd hoA
  have g1 := rT_blklo hR7 R1.out (by omega)
  have g2 := rT_blklo hR7 R2.out (by omega)
  have g4 := rT_blklo hR7 R4.out (by omega)
  have g7 := rT_below hR7 R8.out (by omega) (by omega)
  have g8 := rT_size hR7
  have f3 := g2.frozen 3
  have k3 := (g2.cell 3).trans rfl
  have O9 := ((Only.refl g3 w7).set_ 3 (.slice pN (5 + hds.length) cN))
  have W1 := Lib.hid (O9.blk g1 (by omega))
  have W4 := Lib.hid (O9.blk g4 (by omega))
  have W2 := Lib.hid (show Blk (w7.setCell ⟨g3, 3, none⟩ (.slice pN (5 + hds.length) cN)) g3 44 #[.string (bs soapL), .string (bs cHeader), .slice none 0 0, .slice pN (5 + hds.length) cN, .string ⟨#[]⟩] from g2.set_ 3 _)
  have W8 := Lib.hid (g7.setCell (p := ⟨g3, 3, none⟩) (show w.heap.size ≤ g3 by omega) (.slice pN (5 + hds.length) cN))
  have WT := Lib.hid (hdr_trx (nm := [soapL, cHeader]) hoA hkA (by (simp only [List.length_append, List.length_cons, List.length_nil]) <;> omega) (by omega) O9)
  have WZ := Lib.hid (show g3 < (w7.setCell ⟨g3, 3, none⟩ (.slice pN (5 + hds.length) cN)).heap.size from W2.out.lt)
  clear ho7 hg7 hat7 hR7 hoA hkA g1 g2 g4 g7 g8 O9 R1 R2 R4 R6 R7 R8 HO9S HRW HHW HFL HON HVL HH HRD HOK hs9 S9 hi9 hy0 hy1 hy2 hlm HL
  go_wp2_with fail
  clear f3 k3
  generalize w7.setCell ⟨g3, 3, none⟩ (.slice pN (5 + hds.length) cN) = wA at *
  refine wp_phi_tail (List.take 6 _) (List.drop 6 _) (List.take_append_drop 6 _).symm (fun w' => (Blk w' w.heap.size 46 #[.string (bs act), .string (bs tt), .string (bs ii), .string (bs (f0 :: fl)), .string (bs (r0 :: rl)), .slice ph hds.length ch, v0, v1, v2, v3, v4]) ∧ Below wA.heap.size wA w') [(0, PVal (.agg #[.string (bs soapL), .string (bs cBody)])), (3, PBlk wA.heap.size 44 #[v0, v1, v2, v3, v4] 1), (5, PNew (wA.heap.size) 44 #[.string ⟨#[]⟩, .string ⟨#[]⟩, .slice none 0 0, .slice none 0 0, .string ⟨#[]⟩])] [] (by kernel_rfl) (by kernel_rfl) ?_ ?_ ⟨W1.out, ((Below.refl _ wA)).drew⟩ ?_
  · rintro w1' w2' ⟨f1, hIB⟩ hb
    exact ⟨(by first | exact f1.below hb | exact f1.keep (Below.keeps hb) | exact Below.keeps hb _ _ f1 | exact Blk.below f1 hb (Blk.lt f1)), hIB.trans (hb.mono hIB.size)⟩
  · simp only [List.mem_cons, List.not_mem_nil, or_false, forall_eq_or_imp, forall_eq]
    exact ⟨fun _ _ _ _ h' h => PVal_stays _ _ _ _ h' h, fun _ _ _ _ h' h => PBlk_stays h' h, fun _ _ _ _ h' h => PNew_stays h' h⟩
  simp only [List.take_succ_cons, List.take_zero, List.drop_succ_cons, List.drop_zero]
  repeat (first | (refine phi_skipK rfl (fun K hK => ?_); simp only [Act.put, List.setIfInBounds_toArray, List.set_cons_succ, List.set_cons_zero, List.cons_append, List.nil_append]; apply hK; clear hK K) | (refine phi_pureK rfl rfl (fun K hK => ?_); apply Exists.intro; constructor; (focus (rintro w' ⟨f1, hIB⟩; have q6 := (f1.cell 6).trans rfl; have q7 := (f1.cell 7).trans rfl; have q8 := (f1.cell 8).trans rfl; have q9 := (f1.cell 9).trans rfl; have q10 := (f1.cell 10).trans rfl; clear f1 hIB; first | (go_simp; done) | (go_simp; (try go_bits); (try go_simp); rfl) | go_simp)); simp only [Act.put, List.setIfInBounds_toArray, List.set_cons_succ, List.set_cons_zero, List.cons_append, List.nil_append]; apply hK; clear hK K))
  refine phi_partK (PVal (.agg #[.string (bs soapL), .string (bs cBody)])) rfl rfl ⟨_, rfl⟩ ?_ (fun K hK v hv => ?_)
  · rintro w' ⟨f1, hIB⟩ hf
    unfold gives
    clear hf
    go_simp
    refine (soown_any cBody _).mono ?_
    rintro e w'' ⟨rfl, hb⟩
    exact ⟨_, rfl, rfl, trivial, hb⟩
  obtain rfl : v = _ := hv
  simp only [Act.put, List.setIfInBounds_toArray, List.set_cons_succ, List.set_cons_zero, List.nil_append]
  apply hK
  clear hK K
  repeat (first | (refine phi_skipK rfl (fun K hK => ?_); simp only [Act.put, List.setIfInBounds_toArray, List.set_cons_succ, List.set_cons_zero, List.cons_append, List.nil_append]; apply hK; clear hK K) | (refine phi_pureK rfl rfl (fun K hK => ?_); apply Exists.intro; constructor; (focus (rintro w' ⟨f1, hIB⟩; have q6 := (f1.cell 6).trans rfl; have q7 := (f1.cell 7).trans rfl; have q8 := (f1.cell 8).trans rfl; have q9 := (f1.cell 9).trans rfl; have q10 := (f1.cell 10).trans rfl; clear f1 hIB; first | (go_simp; done) | (go_simp; (try go_bits); (try go_simp); rfl) | go_simp)); simp only [Act.put, List.setIfInBounds_toArray, List.set_cons_succ, List.set_cons_zero, List.nil_append]; apply hK; clear hK K))
  refine phi_partK (PBlk wA.heap.size 44 #[v0, v1, v2, v3, v4] 1) rfl rfl ⟨_, 0, rfl⟩ ?_ (fun K hK v hv => ?_)
  · rintro w' ⟨f1, hIB⟩ hf
    have HGS := Lib.hid hIB.size
    clear hf f1 hIB
    unfold gives
    go_simp
    refine ⟨⟨_, rfl⟩, fun g hg => ?_, below_alloc1 _ _⟩
    obtain rfl : w'.heap.size = g := by simpa using hg
    exact ⟨HGS.out, Blk.new _ _ _⟩
  obtain ⟨g_3, rfl⟩ := hv
  simp only [Act.put, List.setIfInBounds_toArray, List.set_cons_succ, List.set_cons_zero, List.cons_append, List.nil_append]
  apply hK
  clear hK K
  repeat (first | (refine phi_skipK rfl (fun K hK => ?_); simp only [Act.put, List.setIfInBounds_toArray, List.set_cons_succ, List.set_cons_zero, List.cons_append, List.nil_append]; apply hK; clear hK K) | (refine phi_pureK rfl rfl (fun K hK => ?_); apply Exists.intro; constructor; (focus (rintro w' ⟨f1, hIB⟩; have q6 := (f1.cell 6).trans rfl; have q7 := (f1.cell 7).trans rfl; have q8 := (f1.cell 8).trans rfl; have q9 := (f1.cell 9).trans rfl; have q10 := (f1.cell 10).trans rfl; clear f1 hIB; first | (go_simp; done) | (go_simp; (try go_bits); (try go_simp); rfl) | go_simp)); simp only [Act.put, List.setIfInBounds_toArray, List.set_cons_succ, List.set_cons_zero, List.cons_append, List.nil_append]; apply hK; clear hK K))
  refine phi_partK (PNew (wA.heap.size) 44 #[.string ⟨#[]⟩, .string ⟨#[]⟩, .slice none 0 0, .slice none 0 0, .string ⟨#[]⟩]) rfl rfl ⟨_, 0, rfl⟩ ?_ (fun K hK v hv => ?_)
  · rintro w' ⟨f1, hIB⟩ hf
    have HGS := Lib.hid hIB.size
    clear hf f1 hIB
    unfold gives
    go_simp
    refine ⟨⟨_, rfl⟩, fun g hg => ?_, below_alloc1 _ _⟩
    obtain rfl : w'.heap.size = g := by simpa using hg
    exact ⟨HGS.out, Blk.new _ _ _⟩
  obtain ⟨g_5, rfl⟩ := hv
  simp only [Act.put, List.setIfInBounds_toArray, List.set_cons_succ, List.set_cons_zero, List.cons_append, List.nil_append]
  apply hK
  clear hK K
  repeat (first | (refine phi_skipK rfl (fun K hK => ?_); simp only [Act.put, List.setIfInBounds_toArray, List.set_cons_succ, List.set_cons_zero, List.cons_append, List.nil_append]; apply hK; clear hK K) | (refine phi_pureK rfl rfl (fun K hK => ?_); apply Exists.intro; constructor; (focus (rintro w' ⟨f1, hIB⟩; have q6 := (f1.cell 6).trans rfl; have q7 := (f1.cell 7).trans rfl; have q8 := (f1.cell 8).trans rfl; have q9 := (f1.cell 9).trans rfl; have q10 := (f1.cell 10).trans rfl; clear f1 hIB; first | (go_simp; done) | (go_simp; (try go_bits); (try go_simp); rfl) | go_simp)); simp only [Act.put, List.setIfInBounds_toArray, List.set_cons_succ, List.set_cons_zero, List.cons_append, List.nil_append]; apply hK; clear hK K))
  refine phi_done ?_
  rintro w5 ⟨f1, hb5⟩ hk9
  have hb_3 := hk9 (3, fun w1 => (PBlk wA.heap.size 44 #[v0, v1, v2, v3, v4] 1).fact w1 (.slice (some ⟨g_3, 0, none⟩) 1 1)) (by simp) g_3 rfl
  have hb_5 := hk9 (5, fun w1 => (PNew (wA.heap.size) 44 #[.string ⟨#[]⟩, .string ⟨#[]⟩, .slice none 0 0, .slice none 0 0, .string ⟨#[]⟩]).fact w1 (.pointer (some ⟨g_5, 0, none⟩))) (by simp) g_5 rfl
  clear hk9
  obtain ⟨hg6, hk6⟩ := hb_3
  obtain ⟨hg5, hk5⟩ := hb_5
  have hz5 := hb5.size
  have hz3 := WZ.out
  have hne : g_3 ≠ g_5 := fun e => by
    unfold Blk at hk6 hk5
    rw [e, hk5] at hk6
    simp at hk6
    exact HNV.out hk6.2.1.symm
  generalize g_3 = gK at *
  generalize g_5 = gB at *
  refine wpList_store (.tmp 4) (.tmp 61) 44 rfl rfl gB 0 _ _ #[.string (bs soapL), .string (bs cBody), .slice none 0 0, .slice (some ⟨gK, 0, none⟩) 1 1, .string ⟨#[]⟩] rfl rfl hk5 (by kernel_rfl) (by simp [Value.oneCell']) (by simp) ?_
  intro w6 hb6 ho6
  rw [putCells_all #[.string ⟨#[]⟩, .string ⟨#[]⟩, .slice none 0 0, .slice none 0 0, .string ⟨#[]⟩] #[.string (bs soapL), .string (bs cBody), .slice none 0 0, .slice (some ⟨gK, 0, none⟩) 1 1, .string ⟨#[]⟩] rfl] at hb6
  have X2 := Lib.hid (ho6.blk (W2.out.below hb5 (by omega)) (by omega))
  have X4 := Lib.hid (ho6.blk (W4.out.below hb5 (by omega)) (by omega))
  have X3 := Lib.hid (ho6.blk hk6 hne)
  have X5 := Lib.hid hb6
  have XT := Lib.hid (TrX.only (TrX.below WT.out hb5) ho6 (fun b hb => by rcases hb with hb | hb; omega; (have := hb.2.1; omega)))
  have X8 := Lib.hid (W8.out.trans ((hb5.mono (by omega)).trans (ho6.below (by omega))))
  have XZ := Lib.hid (show g3 < w6.heap.size ∧ gB < w6.heap.size ∧ gB ≠ w.heap.size + 1 ∧ gK ≠ w.heap.size + 1 from by have := ho6.size; have := hk5.lt; omega)
  clear f1 hb5 hg5 hk5 hg6 hk6 hz5 hz3 hne hb6 ho6 W1 W2 W4 W8 WT WZ
  go_wp2_with fail
  refine wp_phi_tail (List.take 5 _) (List.drop 5 _) (List.take_append_drop 5 _).symm (fun w' => (Blk w' g3 44 #[.string (bs soapL), .string (bs cHeader), .slice none 0 0, .slice pN (5 + hds.length) cN, .string ⟨#[]⟩]) ∧ (Blk w' gB 44 #[.string (bs soapL), .string (bs cBody), .slice none 0 0, .slice (some ⟨gK, 0, none⟩) 1 1, .string ⟨#[]⟩]) ∧ Below w6.heap.size w6 w') [(0, PVal (.agg #[.string (bs soapL), .string (bs cEnvelope)])), (3, PBlk w6.heap.size 44 #[.string (bs soapL), .string (bs cHeader), .slice none 0 0, .slice pN (5 + hds.length) cN, .string ⟨#[]⟩, .string (bs soapL), .string (bs cBody), .slice none 0 0, .slice (some ⟨gK, 0, none⟩) 1 1, .string ⟨#[]⟩] 2)] [] (by kernel_rfl) (by kernel_rfl) ?_ ?_ ⟨X2.out, X5.out, ((Below.refl _ w6)).drew⟩ ?_
  · rintro w1' w2' ⟨f1, f2, hIB⟩ hb
    exact ⟨(by first | exact f1.below hb | exact f1.keep (Below.keeps hb) | exact Below.keeps hb _ _ f1 | exact Blk.below f1 hb (Blk.lt f1)), (by first | exact f2.below hb | exact f2.keep (Below.keeps hb) | exact Below.keeps hb _ _ f2 | exact Blk.below f2 hb (Blk.lt f2)), hIB.trans (hb.mono hIB.size)⟩
  · simp only [List.mem_cons, List.not_mem_nil, or_false, forall_eq_or_imp, forall_eq]
    exact ⟨fun _ _ _ _ h' h => PVal_stays _ _ _ _ h' h, fun _ _ _ _ h' h => PBlk_stays h' h⟩
  simp only [List.take_succ_cons, List.take_zero, List.drop_succ_cons, List.drop_zero]
  repeat (first | (refine phi_skipK rfl (fun K hK => ?_); simp only [Act.put, List.setIfInBounds_toArray, List.set_cons_succ, List.set_cons_zero, List.cons_append, List.nil_append]; apply hK; clear hK K) | (refine phi_pureK rfl rfl (fun K hK => ?_); apply Exists.intro; constructor; (focus (rintro w' ⟨f1, f2, hIB⟩; have q0 := (f1.cell 0).trans rfl; have q1 := (f1.cell 1).trans rfl; have q2 := (f1.cell 2).trans rfl; have q3 := (f1.cell 3).trans rfl; have q4 := (f1.cell 4).trans rfl; have s0 := (f2.cell 0).trans rfl; have s1 := (f2.cell 1).trans rfl; have s2 := (f2.cell 2).trans rfl; have s3 := (f2.cell 3).trans rfl; have s4 := (f2.cell 4).trans rfl; clear f1 f2 hIB; first | (go_simp; done) | (go_simp; (try go_bits); (try go_simp); rfl) | go_simp)); simp only [Act.put, List.setIfInBounds_toArray, List.set_cons_succ, List.set_cons_zero, List.cons_append, List.nil_append]; apply hK; clear hK K))
  refine phi_partK (PVal (.agg #[.string (bs soapL), .string (bs cEnvelope)])) rfl rfl ⟨_, rfl⟩ ?_ (fun K hK v hv => ?_)
  · rintro w' ⟨f1, f2, hIB⟩ hf
    unfold gives
    clear hf
    go_simp
    refine (soown_any cEnvelope _).mono ?_
    rintro e w'' ⟨rfl, hb⟩
    exact ⟨_, rfl, rfl, trivial, hb⟩
  obtain rfl : v = _ := hv
  simp only [Act.put, List.setIfInBounds_toArray, List.set_cons_succ, List.set_cons_zero, List.cons_append, List.nil_append]
  apply hK
  clear hK K
  repeat (first | (refine phi_skipK rfl (fun K hK => ?_); simp only [Act.put, List.setIfInBounds_toArray, List.set_cons_succ, List.set_cons_zero, List.cons_append, List.nil_append]; apply hK; clear hK K) | (refine phi_pureK rfl rfl (fun K hK => ?_); apply Exists.intro; constructor; (focus (rintro w' ⟨f1, f2, hIB⟩; have q0 := (f1.cell 0).trans rfl; have q1 := (f1.cell 1).trans rfl; have q2 := (f1.cell 2).trans rfl; have q3 := (f1.cell 3).trans rfl; have q4 := (f1.cell 4).trans rfl; have s0 := (f2.cell 0).trans rfl; have s1 := (f2.cell 1).trans rfl; have s2 := (f2.cell 2).trans rfl; have s3 := (f2.cell 3).trans rfl; have s4 := (f2.cell 4).trans rfl; clear f1 f2 hIB; first | (go_simp; done) | (go_simp; (try go_bits); (try go_simp); rfl) | go_simp)); simp only [Act.put, List.setIfInBounds_toArray, List.set_cons_succ, List.set_cons_zero, List.cons_append, List.nil_append]; apply hK; clear hK K))
  refine phi_partK (PBlk w6.heap.size 44 #[.string (bs soapL), .string (bs cHeader), .slice none 0 0, .slice pN (5 + hds.length) cN, .string ⟨#[]⟩, .string (bs soapL), .string (bs cBody), .slice none 0 0, .slice (some ⟨gK, 0, none⟩) 1 1, .string ⟨#[]⟩] 2) rfl rfl ⟨_, 0, rfl⟩ ?_ (fun K hK v hv => ?_)
  · rintro w' ⟨f1, f2, hIB⟩ hf
    have HGS := Lib.hid hIB.size
    clear hf f1 f2 hIB
    unfold gives
    go_simp
    refine ⟨⟨_, rfl⟩, fun g hg => ?_, below_alloc1 _ _⟩
    obtain rfl : w'.heap.size = g := by simpa using hg
    exact ⟨HGS.out, Blk.new _ _ _⟩
  obtain ⟨g_3, rfl⟩ := hv
  simp only [Act.put, List.setIfInBounds_toArray, List.set_cons_succ, List.set_cons_zero, List.cons_append, List.nil_append]
  apply hK
  clear hK K
  repeat (first | (refine phi_skipK rfl (fun K hK => ?_); simp only [Act.put, List.setIfInBounds_toArray, List.set_cons_succ, List.set_cons_zero, List.cons_append, List.nil_append]; apply hK; clear hK K) | (refine phi_pureK rfl rfl (fun K hK => ?_); apply Exists.intro; constructor; (focus (rintro w' ⟨f1, f2, hIB⟩; have q0 := (f1.cell 0).trans rfl; have q1 := (f1.cell 1).trans rfl; have q2 := (f1.cell 2).trans rfl; have q3 := (f1.cell 3).trans rfl; have q4 := (f1.cell 4).trans rfl; have s0 := (f2.cell 0).trans rfl; have s1 := (f2.cell 1).trans rfl; have s2 := (f2.cell 2).trans rfl; have s3 := (f2.cell 3).trans rfl; have s4 := (f2.cell 4).trans rfl; clear f1 f2 hIB; first | (go_simp; done) | (go_simp; (try go_bits); (try go_simp); rfl) | go_simp)); simp only [Act.put, List.setIfInBounds_toArray, List.set_cons_succ, List.set_cons_zero, List.cons_append, List.nil_append]; apply hK; clear hK K))
  refine phi_done ?_
  rintro wB ⟨f1, f2, hbB⟩ hk9
  have hb_3 := hk9 (3, fun w1 => (PBlk w6.heap.size 44 #[.string (bs soapL), .string (bs cHeader), .slice none 0 0, .slice pN (5 + hds.length) cN, .string ⟨#[]⟩, .string (bs soapL), .string (bs cBody), .slice none 0 0, .slice (some ⟨gK, 0, none⟩) 1 1, .string ⟨#[]⟩] 2).fact w1 (.slice (some ⟨g_3, 0, none⟩) 2 2)) (by simp) g_3 rfl
  clear hk9
  obtain ⟨hgT, hkT⟩ := hb_3
  generalize g_3 = gT at *
  have XB := X4.out.below hbB (by have := XZ.out; omega)
  refine wpList_store (.tmp 2) (.tmp 66) 44 rfl rfl (w.heap.size + 1) 0 _ _ #[.string (bs soapL), .string (bs cEnvelope), .slice none 0 0, .slice (some ⟨gT, 0, none⟩) 2 2, .string ⟨#[]⟩] rfl rfl XB (by kernel_rfl) (by simp [Value.oneCell']) (by simp) ?_
  intro w8 hb8 ho8
  rw [putCells_all #[.string ⟨#[]⟩, .string ⟨#[]⟩, .slice none 0 0, .slice none 0 0, .string ⟨#[]⟩] #[.string (bs soapL), .string (bs cEnvelope), .slice none 0 0, .slice (some ⟨gT, 0, none⟩) 2 2, .string ⟨#[]⟩] rfl] at hb8
  have hxz := XZ.out
  have hzB := hbB.size
  have HEAD := Lib.hid (TrX.imp (fun _ _ => trivial) _ _ (TrX.only (TrX.below XT.out hbB) ho8 (fun b hb => by rcases hb with hb | hb; omega; (have := hb.1; omega))) : TrX w8 (fun _ => True) _ _)
  have BROW := Lib.hid (ho8.blk (X3.out.below hbB X3.out.lt) (by omega))
  have TROW := Lib.hid (ho8.blk hkT (by omega))
  have BEL := Lib.hid (X8.out.trans ((hbB.mono (by have := X8.out.size; omega)).trans (ho8.below (by omega))))
  have BDY := Lib.hid (TrX.imp (fun _ _ => trivial) _ _ (TrX.keepP (fun a v _ hv => Below.keeps BEL.out a v hv) _ _ HB.out) : TrX w8 (fun _ => True) bdy [v0, v1, v2, v3, v4])
  have z0 := (hb8.cell 0).trans rfl; have z1 := (hb8.cell 1).trans rfl; have z2 := (hb8.cell 2).trans rfl; have z3 := (hb8.cell 3).trans rfl; have z4 := (hb8.cell 4).trans rfl
  clear hb8 ho8 hxz hzB XB hkT hgT f1 f2 hbB X2 X3 X4 X5 X8 XT XZ HB
  go_wp2_with fail
  refine bodyPost_ret (v := .agg #[.string (bs soapL), .string (bs cEnvelope), .slice none 0 0, .slice (some ⟨gT, 0, none⟩) 2 2, .string ⟨#[]⟩]) (by simp [results, Tryz.results76, go_sem, z0, z1, z2, z3, z4]) rfl ?_
  refine ⟨gT, rfl, TrX.plain (P := fun _ => True) _ _ ?_, BEL.out⟩
  exact node_trxP (P := fun _ => True) (nm := [soapL, cEnvelope]) (tx := []) (css := [_, _]) trivial TROW.out ⟨_, _, rfl, HEAD.out, _, _, rfl, node_trxP (P := fun _ => True) (nm := [soapL, cBody]) (tx := []) (css := [[v0, v1, v2, v3, v4]]) (n := 1) trivial BROW.out (TrXL.one BDY.out) rfl (by decide), rfl⟩ rfl (by decide)
end Go.Proofs.YthboiahdheehkaaGreatDoor
