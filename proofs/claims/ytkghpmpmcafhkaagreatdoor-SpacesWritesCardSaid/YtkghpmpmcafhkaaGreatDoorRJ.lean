/- RetErr -/
import Derived.Test.YtkghpmpmcafhkaaGreatDoorPD
import Derived.Test.YtkghpmpmcafhkaaGreatDoorRI
namespace Go.Proofs.YtkghpmpmcafhkaaGreatDoor
set_option maxHeartbeats 16000000
set_option maxRecDepth 20000
open Go.RowKit
def PSto (F : World → Prop) : Part := ⟨fun v => v = undef, fun w _ => F w⟩
theorem gives_store {P : Program} {w : World} {o : Oper} {a : Act} {T : Value → World → Prop} (pa pv : Operand) (ty : TypeId) (ho : o.op = .store ty pa pv)
    (g off : Nat) (t : TypeId) (cs vs : Array Value) (hpa : a.eval pa = .pointer (some ⟨g, off, none⟩)) (hpv : a.eval pv = .agg vs) (hb : Blk w g t cs)
    (hi : (P.info? ty).map (·.size) = some vs.size) (h1 : ∀ v ∈ vs.toList, v.oneCell' = true) (hfit : off + vs.size ≤ cs.size)
    (h : ∀ w', Blk w' g t (putCells cs off vs) → Only g w w' → T undef w') : gives P o a.eval w T := by
  obtain ⟨i, hi1, hi2⟩ := Option.map_eq_some_iff.1 hi
  have hst := run_storeCells_at (P := P) g off t vs.toList 0 cs w hb (by simpa using hfit) h1
  have hst2 : (storeCells ⟨g, off, none⟩ vs.toList).run P w = .ok () (w.setRow g (putCells cs off vs)) := by
    have e : putCells cs off vs = (cs.toList.take (off + 0) ++ vs.toList ++ cs.toList.drop (off + 0 + vs.toList.length)).toArray := by simp [putCells]
    rw [e]; exact hst
  have hsz : (Value.agg vs).cells = vs := rfl
  have hr : (execOp a.eval o).run P w = .ok .skip (w.setRow g (putCells cs off vs)) := by
    unfold execOp
    simp [ho, hpa, hpv, Instr.storeAt, Instr.sureAddr, storeVar, sizeOf, typeInfo, hi1, hi2, hsz, hst2]
  unfold gives
  rw [hr]
  exact h _ (setRow_heap w g cs _ t _ hb) ⟨rfl, rfl, rfl, by simp, fun k hk => setRow_other w g k _ hk⟩
end Go.Proofs.YtkghpmpmcafhkaaGreatDoor
namespace Go.Proofs.YtkghpmpmcafhkaaGreatDoor
set_option maxHeartbeats 16000000
set_option maxRecDepth 20000
open Go.RowKit
attribute [local go_sem] bs_toList
attribute [local irreducible] wpPhi wpPhiU PX.wpPhi
theorem wriAts_cons (l : List (List UInt8)) (a : List (List UInt8)) (b : List (List (List UInt8))) : wriAts l (a :: b) = if localB (a.getD 1 []) = false ∨ (a.getD 0 [] = [] ∧ a.getD 1 [] = xmlnsL) then none else (wriAts l b).map fun xs => [prefixedF l a, a.getD 2 []] :: xs := rfl
theorem wriAts_app (l : List (List UInt8)) : ∀ xs zs : List (List (List UInt8)), wriAts l (xs ++ zs) = (wriAts l xs).bind fun a => (wriAts l zs).map fun b => a ++ b
  | [], zs => by rw [List.nil_append]; show wriAts l zs = (some []).bind _; simp
  | x :: xs, zs => by
    rw [List.cons_append, wriAts_cons, wriAts_cons, wriAts_app l xs zs]
    split
    · rfl
    · cases wriAts l xs with
      | none => rfl
      | some a =>
        simp only [Option.bind_some, Option.map_some]
        cases wriAts l zs <;> rfl
theorem wriAts_step {l : List (List UInt8)} {xs ys : List (List (List UInt8))} {j : Nat} {x0 x1 x2 : List UInt8} (h : j < xs.length) (hg : xs[j] = [x0, x1, x2]) (hd : wriAts l (xs.take j) = some ys) : wriAts l (xs.take (j + 1)) = if (!localB x1 || (x0 == [] && x1 == [120, 109, 108, 110, 115])) = true then none else some (ys ++ [[prefixedF l [x0, x1], x2]]) := by
  rw [List.take_succ_eq_append_getElem h, wriAts_app, hd, wriAts_cons, hg]
  show (some ys).bind (fun a => (if localB x1 = false ∨ (x0 = [] ∧ x1 = xmlnsL) then none else (wriAts l []).map fun xs => [prefixedF l [x0, x1], x2] :: xs).map fun b => a ++ b) = _
  unfold xmlnsL
  by_cases hc : (!localB x1 || (x0 == [] && x1 == [120, 109, 108, 110, 115])) = true
  · rw [if_pos hc, if_pos (by simpa using hc)]; rfl
  · rw [if_neg hc, if_neg (by simpa using hc)]; rfl
theorem wriAts_bad {l : List (List UInt8)} {xs : List (List (List UInt8))} {j : Nat} (h : wriAts l (xs.take j) = none) : wriAts l xs = none := by
  rw [← List.take_append_drop j xs, wriAts_app, h]
  rfl
theorem wriAts_len {l : List (List UInt8)} : ∀ {xs ys : List (List (List UInt8))}, wriAts l xs = some ys → ys.length = xs.length ∧ ∀ a ∈ ys, a.length = 1 + 1
  | [], ys, h => by cases h; exact ⟨rfl, by simp⟩
  | x :: xs, ys, h => by
    rw [wriAts_cons] at h
    split at h
    · cases h
    · obtain ⟨zs, hz, rfl⟩ := Option.map_eq_some_iff.1 h
      obtain ⟨h1, h2⟩ := wriAts_len hz
      refine ⟨by simp [h1], fun a ha => ?_⟩
      rcases List.mem_cons.1 ha with rfl | ha
      · rfl
      · exact h2 a ha
theorem wriL_nil (l : List (List UInt8)) : Tr.wriL l [] = some [] := by rw [Tr.wriL]
theorem wriL_cons (l : List (List UInt8)) (x : Tr) (xs : List Tr) : Tr.wriL l (x :: xs) = (x.wri l).bind fun y => (Tr.wriL l xs).map fun ys => y :: ys := by rw [Tr.wriL]
theorem wriL_app (l : List (List UInt8)) : ∀ xs zs : List Tr, Tr.wriL l (xs ++ zs) = (Tr.wriL l xs).bind fun a => (Tr.wriL l zs).map fun b => a ++ b
  | [], zs => by rw [List.nil_append, wriL_nil]; simp
  | x :: xs, zs => by
    rw [List.cons_append, wriL_cons, wriL_cons, wriL_app l xs zs]
    cases x.wri l with
    | none => rfl
    | some y =>
      cases Tr.wriL l xs with
      | none => rfl
      | some a =>
        simp only [Option.bind_some, Option.map_some]
        cases Tr.wriL l zs <;> rfl
theorem wriL_step {l : List (List UInt8)} {xs ys : List Tr} {j : Nat} (h : j < xs.length) (hd : Tr.wriL l (xs.take j) = some ys) : Tr.wriL l (xs.take (j + 1)) = (xs[j].wri l).map fun y => ys ++ [y] := by
  rw [List.take_succ_eq_append_getElem h, wriL_app, hd, wriL_cons, wriL_nil]
  simp only [Option.bind_some]
  cases xs[j].wri l <;> rfl
theorem wriL_bad {l : List (List UInt8)} {xs : List Tr} {j : Nat} (h : Tr.wriL l (xs.take j) = none) : Tr.wriL l xs = none := by
  rw [← List.take_append_drop j xs, wriL_app, h]
  rfl
theorem wriL_len {l : List (List UInt8)} : ∀ {xs ys : List Tr}, Tr.wriL l xs = some ys → ys.length = xs.length
  | [], ys, h => by rw [wriL_nil] at h; cases h; rfl
  | x :: xs, ys, h => by
    rw [wriL_cons] at h
    obtain ⟨y, _, h⟩ := Option.bind_eq_some_iff.1 h
    obtain ⟨zs, hz, rfl⟩ := Option.map_eq_some_iff.1 h
    simp [wriL_len hz]
theorem wri_tx (l : List (List UInt8)) (ax : List (List (List UInt8))) (kx : List Tr) (tx : List UInt8) : (Tr.node [[], []] ax kx tx).wri l = if ax.length = 0 ∧ kx.length = 0 then some (.node [[]] [] [] tx) else none := by
  rw [Tr.wri]
  exact if_pos ⟨rfl, rfl⟩
theorem wri_el {a0 a1 : List UInt8} (h : ¬ (a0 = [] ∧ a1 = [])) (l : List (List UInt8)) (ax : List (List (List UInt8))) (kx : List Tr) (tx : List UInt8) : (Tr.node [a0, a1] ax kx tx).wri l = if localB a1 = false then none else (wriAts l ax).bind fun bts => (Tr.wriL l kx).map fun xs => .node [prefixedF l [a0, a1]] bts xs tx := by
  rw [Tr.wri]
  exact if_neg h
theorem wri_nm {l : List (List UInt8)} {x y : Tr} (h : x.wri l = some y) : y.nm.length = 1 := by
  obtain ⟨nm, ats, ks, t⟩ := x
  rw [Tr.wri] at h
  split at h
  · split at h
    · cases h; rfl
    · cases h
  · split at h
    · cases h
    · obtain ⟨bts, _, h⟩ := Option.bind_eq_some_iff.1 h
      obtain ⟨k, _, rfl⟩ := Option.map_eq_some_iff.1 h
      rfl
def RwR (o : Option Tr) (w : World) (e : Ending) (w' : World) : Prop :=
  Below w.heap.size w w' ∧ ((∃ y cs, o = some y ∧ e = .returned (.tuple #[.agg cs.toArray, .bool true]) ∧ TrC w' (Bt w.heap.size w'.heap.size none) y cs) ∨ (o = none ∧ ∃ f0 f1 f2 f3, e = .returned (.tuple #[.agg #[f0, f1, f2, f3], .bool false]) ∧ (f0.oneCell' = true ∧ f1.oneCell' = true ∧ f2.oneCell' = true ∧ f3.oneCell' = true)))
theorem elem23_info : (Tryz.prog.info? 50).map (fun i => (i.zero, i.size, i.bytes)) = some (some (.agg #[.string ⟨#[]⟩, .slice none 0 0, .slice none 0 0, .string ⟨#[]⟩]), 4, 80) := by kernel_rfl
theorem attr23_info : (Tryz.prog.info? 91).map (fun i => (i.zero, i.size, i.bytes)) = some (some (.agg #[.string ⟨#[]⟩, .string ⟨#[]⟩]), 2, 32) := by kernel_rfl
theorem rwrite24_any (l : List (List UInt8)) (pl : Option Addr) (cl : Nat) (hlc : l.length ≤ cl) (hlm : cl ≤ maxLen) (hll : l.length ≤ 999999) : ∀ (n : Nat) (x : Tr) (P : Nat → Prop) (cx : List Value) (w : World), x.sz ≤ n → x.ok 2 → x.shr → x.few → TrC w P x cx → Rd w pl (strs l) →
    Calls Tryz.prog 50 #[.agg cx.toArray, .slice pl l.length cl] w (RwR (x.wri l) w) := by
  intro n
  induction n with
  | zero => intro x P cx w hs; have := x.sz_pos; omega
  | succ n ih =>
    intro x P cx w hs hx hsh hfw hcx hrd
    obtain ⟨nx, ax, kx, tx⟩ := x
    unfold TrC at hcx
    unfold Tr.ok at hx
    unfold Tr.shr at hsh
    unfold Tr.few at hfw
    obtain ⟨hx1, hx2, hx3⟩ := hx
    obtain ⟨hs1, hs2, hs3, hs4⟩ := hsh
    obtain ⟨hf1, hf2, hf3⟩ := hfw
    obtain ⟨a0, a1, rfl⟩ := two_of hx1
    obtain ⟨pa, ca, pk, ck, css, rfl, ⟨A1, A2, A3, -⟩, ⟨K1, K2, K3, -⟩, hL⟩ := hcx
    show Calls Tryz.prog 50 #[.agg #[.string (bs a0), .string (bs a1), .slice pa ax.length ca, .slice pk kx.length ck, .string (bs tx)], .slice pl l.length cl] w _
    obtain ⟨w3, hw3⟩ : ∃ w3, w3 = ((w.alloc (.cells #[.string (bs a0), .string (bs a1), .slice pa ax.length ca, .slice pk kx.length ck, .string (bs tx)] 44)).alloc (.cells #[.string ⟨#[]⟩, .slice none 0 0, .slice none 0 0, .string ⟨#[]⟩] 50)).alloc (.cells #[.string ⟨#[]⟩, .slice none 0 0, .slice none 0 0, .string (bs tx)] 50) := ⟨_, rfl⟩
    have hB3 : Below w.heap.size w w3 := by rw [hw3]; exact below_alloc (below_alloc (below_alloc1 w _) _) _
    have hN1 : Blk w3 w.heap.size 44 #[.string (bs a0), .string (bs a1), .slice pa ax.length ca, .slice pk kx.length ck, .string (bs tx)] := by rw [hw3]; exact ((Blk.new w _ _).alloc _).alloc _
    have hN2 : Blk w3 (w.heap.size + 1) 50 #[.string ⟨#[]⟩, .slice none 0 0, .slice none 0 0, .string ⟨#[]⟩] := by
      rw [hw3]
      have := (Blk.new (w.alloc (.cells #[.string (bs a0), .string (bs a1), .slice pa ax.length ca, .slice pk kx.length ck, .string (bs tx)] 44)) 50 #[.string ⟨#[]⟩, .slice none 0 0, .slice none 0 0, .string ⟨#[]⟩]).alloc (.cells #[.string ⟨#[]⟩, .slice none 0 0, .slice none 0 0, .string (bs tx)] 50)
      rwa [World.size_alloc] at this
    have hN3 : Blk w3 (w.heap.size + 1 + 1) 50 #[.string ⟨#[]⟩, .slice none 0 0, .slice none 0 0, .string (bs tx)] := by
      rw [hw3]
      have := Blk.new ((w.alloc (.cells #[.string (bs a0), .string (bs a1), .slice pa ax.length ca, .slice pk kx.length ck, .string (bs tx)] 44)).alloc (.cells #[.string ⟨#[]⟩, .slice none 0 0, .slice none 0 0, .string ⟨#[]⟩] 50)) 50 #[.string ⟨#[]⟩, .slice none 0 0, .slice none 0 0, .string (bs tx)]
      rwa [World.size_alloc, World.size_alloc] at this
    have HW3 := Lib.hid hw3
    have B3 := Lib.hid hB3
    have N1 := Lib.hid hN1
    have N2 := Lib.hid hN2
    have N3 := Lib.hid hN3
    have c0 := (hN1.cell 0).trans rfl
    have c1 := (hN1.cell 1).trans rfl
    have c2 := (hN1.cell 2).trans rfl
    have c3 := (hN1.cell 3).trans rfl
    have r0 := (hN3.cell 0).trans rfl
    have r1 := (hN3.cell 1).trans rfl
    have r2 := (hN3.cell 2).trans rfl
    have r3 := (hN3.cell 3).trans rfl
    have q4 : ((w.alloc (.cells #[.string (bs a0), .string (bs a1), .slice pa ax.length ca, .slice pk kx.length ck, .string (bs tx)] 44)).alloc (.cells #[.string ⟨#[]⟩, .slice none 0 0, .slice none 0 0, .string ⟨#[]⟩] 50)).cell? ⟨w.heap.size, 4, none⟩ = some (.string (bs tx)) := (((Blk.new w 44 #[.string (bs a0), .string (bs a1), .slice pa ax.length ca, .slice pk kx.length ck, .string (bs tx)]).alloc (.cells #[.string ⟨#[]⟩, .slice none 0 0, .slice none 0 0, .string ⟨#[]⟩] 50)).cell 4).trans rfl
    rw [hw3] at c0 c1 c2 c3 r0 r1 r2 r3
    have hi00 : a0.isEmpty = (a0 == []) := by cases a0 <;> rfl
    have hi01 : (bs a0).toList.isEmpty = (a0 == []) := isE_bs a0
    have hi10 : a1.isEmpty = (a1 == []) := by cases a1 <;> rfl
    have hi11 : (bs a1).toList.isEmpty = (a1 == []) := isE_bs a1
    have HA := Lib.hid A3
    have HK := Lib.hid K3
    have HL := Lib.hid hL
    have HX2 := Lib.hid hx2
    have HX3 := Lib.hid hx3
    have HS2 := Lib.hid hs2
    have HS4 := Lib.hid hs4
    have HF3 := Lib.hid hf3
    have HIH := Lib.hid ih
    have HRD := Lib.hid hrd
    have hsa0 : shS a0 := hs1 a0 (by simp)
    have hsa1 : shS a1 := hs1 a1 (by simp)
    have hks : ∀ i (hi : i < kx.length), kx[i].sz ≤ n := fun i hi => by
      have := Tr.sz_kid (.node [a0, a1] ax kx tx) i hi
      have h2 : (Tr.node [a0, a1] ax kx tx).ks[i] = kx[i] := rfl
      rw [h2] at this
      omega
    have HKS := Lib.hid hks
    unfold maxLen at A2 K2
    clear hB3 hN1 hN2 hN3 hw3 A3 K3 hL hrd ih hx2 hx3 hs1 hs2 hs4 hf3 hks
    by_cases h0 : a0 = [] ∧ a1 = []
    · obtain ⟨rfl, rfl⟩ := h0
      rw [wri_tx]
      have hi00 : ([] : List UInt8).isEmpty = true := rfl
      have k0 : w3.cell? ⟨w.heap.size, 0, none⟩ = some (.string ⟨#[]⟩) := by rw [HW3.out]; exact c0
      have k1 : w3.cell? ⟨w.heap.size, 1, none⟩ = some (.string ⟨#[]⟩) := by rw [HW3.out]; exact c1
      rw [HW3.out] at k0 k1
      obtain ⟨R, hR⟩ : ∃ R, (if ax.length = 0 ∧ kx.length = 0 then some (Tr.node [[]] [] [] tx) else none) = R := ⟨_, rfl⟩
      rw [hR]
      have HR := Lib.hid hR
      clear c0 c1 HX2 HX3 HA HK HL HS2 HS4 HF3 HIH HRD HKS hi01 hi10 hi11 hR
      go_enter Tryz.func50, Tryz.ntmps50
      go_wp2_with fail
      rw [← HW3.out]
      rw [← HW3.out] at c2 c3 r0 r1 r2 r3
      have hN2 := N2.out
      clear k0 k1 q4
      rcases Nat.eq_zero_or_pos ax.length with hA | hA
      · have hz1 : ((ax.length : Int) == 0) = true := by rw [hA]; rfl
        rcases Nat.eq_zero_or_pos kx.length with hK | hK
        · have hz2 : ((kx.length : Int) == 0) = true := by rw [hK]; rfl
          obtain rfl : some (Tr.node [[]] [] [] tx) = R := by rw [← HR.out, if_pos ⟨hA, hK⟩]
          clear HR hA hK
          refine wp_phiU (fun _ wa wb => Only (w.heap.size + 1) wa wb) (fun wq => Only (w.heap.size + 1) w3 wq) [(11, PSto fun wq => Blk wq (w.heap.size + 1) 50 #[.string ⟨#[]⟩, .slice none 0 0, .slice none 0 0, .string (bs tx)])] [] [(11, fun wq => Blk wq (w.heap.size + 1) 50 #[.string ⟨#[]⟩, .slice none 0 0, .slice none 0 0, .string ⟨#[]⟩])] [] (by kernel_rfl) (by kernel_rfl) ?_ ?_ ?_ ?_ (Only.refl _ _).drew ?_
          · intro p hp w1 w2 h1 h2
            exact h1.trans h2
          · simp only [List.mem_cons, List.not_mem_nil, or_false, forall_eq]
            intro h
            exact absurd rfl h
          · simp only [List.mem_cons, List.not_mem_nil, or_false, forall_eq]
            intro h
            exact absurd rfl h
          · simp only [List.mem_cons, List.not_mem_nil, or_false, forall_eq]
            exact N2.out
          repeat (first | (refine phiU_skipK rfl (fun K hK => ?_); simp only [Act.put, List.setIfInBounds_toArray, List.set_cons_succ, List.set_cons_zero, List.cons_append, List.nil_append]; apply hK; clear hK K) | (refine phiU_pureK rfl rfl (fun K hK => ?_); apply Exists.intro; constructor; (focus (rintro w' hI; (have tb := hI.blk N1.out (by omega); have u2 := (tb.cell 2).trans rfl; have u3 := (tb.cell 3).trans rfl; have ta := hI.blk N3.out (by omega); have s0 := (ta.cell 0).trans rfl; have s1 := (ta.cell 1).trans rfl; have s2 := (ta.cell 2).trans rfl; have s3 := (ta.cell 3).trans rfl; clear hI tb ta); first | (go_simp; done) | (go_simp; (try go_bits); (try go_simp); rfl) | go_simp)); simp only [Act.put, List.setIfInBounds_toArray, List.set_cons_succ, List.set_cons_zero, List.cons_append, List.nil_append]; apply hK; clear hK K))
          refine phiU_partK (PSto fun wq => Blk wq (w.heap.size + 1) 50 #[.string ⟨#[]⟩, .slice none 0 0, .slice none 0 0, .string (bs tx)]) rfl rfl ⟨_, rfl⟩ ?_ (fun K hK v hv => ?_)
          · intro wq hI hf hu
            have hm : Blk wq (w.heap.size + 1) 50 #[.string ⟨#[]⟩, .slice none 0 0, .slice none 0 0, .string ⟨#[]⟩] := hu (11, fun wq => Blk wq (w.heap.size + 1) 50 #[.string ⟨#[]⟩, .slice none 0 0, .slice none 0 0, .string ⟨#[]⟩]) (by simp) rfl
            exact gives_store (.tmp 4) (.tmp 26) 50 rfl (w.heap.size + 1) 0 _ _ #[.string ⟨#[]⟩, .slice none 0 0, .slice none 0 0, .string (bs tx)] rfl rfl hm (by kernel_rfl) (by simp [Value.oneCell']) (by simp) (fun w2 h2 h3 => ⟨rfl, h2, h3⟩)
          obtain rfl : v = _ := hv
          simp only [Act.put, List.setIfInBounds_toArray, List.set_cons_succ, List.set_cons_zero, List.cons_append, List.nil_append]
          apply hK
          clear hK K
          repeat (first | (refine phiU_skipK rfl (fun K hK => ?_); simp only [Act.put, List.setIfInBounds_toArray, List.set_cons_succ, List.set_cons_zero, List.cons_append, List.nil_append]; apply hK; clear hK K) | (refine phiU_pureK rfl rfl (fun K hK => ?_); apply Exists.intro; constructor; (focus (rintro w' hI; (have tb := hI.blk N1.out (by omega); have u2 := (tb.cell 2).trans rfl; have u3 := (tb.cell 3).trans rfl; have ta := hI.blk N3.out (by omega); have s0 := (ta.cell 0).trans rfl; have s1 := (ta.cell 1).trans rfl; have s2 := (ta.cell 2).trans rfl; have s3 := (ta.cell 3).trans rfl; clear hI tb ta); first | (go_simp; done) | (go_simp; (try go_bits); (try go_simp); rfl) | go_simp)); simp only [Act.put, List.setIfInBounds_toArray, List.set_cons_succ, List.set_cons_zero, List.cons_append, List.nil_append]; apply hK; clear hK K))
          refine phiU_done ?_
          intro w8 hI hf
          have hb8 : Blk w8 (w.heap.size + 1) 50 #[.string ⟨#[]⟩, .slice none 0 0, .slice none 0 0, .string (bs tx)] := hf (11, fun wq => (PSto fun wq => Blk wq (w.heap.size + 1) 50 #[.string ⟨#[]⟩, .slice none 0 0, .slice none 0 0, .string (bs tx)]).fact wq undef) (by simp) rfl
          have z0 := (hb8.cell 0).trans rfl
          have z1 := (hb8.cell 1).trans rfl
          have z2 := (hb8.cell 2).trans rfl
          have z3 := (hb8.cell 3).trans rfl
          have HBW := Lib.hid (B3.out.trans (hI.below (by omega : w.heap.size ≤ w.heap.size + 1)))
          clear hb8 hI hf c2 c3 r0 r1 r2 r3
          refine wpList_nil ?_
          go_wp2_with fail
          refine bodyPost_ret (v := .tuple #[.agg #[.string ⟨#[]⟩, .slice none 0 0, .slice none 0 0, .string (bs tx)], .bool true]) (by simp [results, Tryz.results50, go_sem, z0, z1, z2, z3]) rfl ?_
          refine ⟨HBW.out, .inl ⟨_, [.string ⟨#[]⟩, .slice none 0 0, .slice none 0 0, .string (bs tx)], rfl, rfl, ?_⟩⟩
          unfold TrC
          exact ⟨none, 0, none, 0, [], rfl, ⟨Nat.le_refl _, by unfold maxLen; omega, .inl rfl, by simp⟩, ⟨Nat.le_refl _, by unfold maxLen; omega, .inl rfl, by simp⟩, by unfold TrL; rfl⟩
        · have hz2 : ((kx.length : Int) == 0) = false := beq_eq_false_iff_ne.2 (by omega)
          obtain rfl : none = R := by rw [← HR.out, if_neg (by omega)]
          clear HR hA hK
          refine wp_phiU (fun _ wa wb => Only (w.heap.size + 1) wa wb) (fun wq => Only (w.heap.size + 1) w3 wq) [(11, PSto fun wq => Blk wq (w.heap.size + 1) 50 #[.string ⟨#[]⟩, .slice none 0 0, .slice none 0 0, .string (bs tx)])] [] [(11, fun wq => Blk wq (w.heap.size + 1) 50 #[.string ⟨#[]⟩, .slice none 0 0, .slice none 0 0, .string ⟨#[]⟩])] [] (by kernel_rfl) (by kernel_rfl) ?_ ?_ ?_ ?_ (Only.refl _ _).drew ?_
          · intro p hp w1 w2 h1 h2
            exact h1.trans h2
          · simp only [List.mem_cons, List.not_mem_nil, or_false, forall_eq]
            intro h
            exact absurd rfl h
          · simp only [List.mem_cons, List.not_mem_nil, or_false, forall_eq]
            intro h
            exact absurd rfl h
          · simp only [List.mem_cons, List.not_mem_nil, or_false, forall_eq]
            exact N2.out
          repeat (first | (refine phiU_skipK rfl (fun K hK => ?_); simp only [Act.put, List.setIfInBounds_toArray, List.set_cons_succ, List.set_cons_zero, List.cons_append, List.nil_append]; apply hK; clear hK K) | (refine phiU_pureK rfl rfl (fun K hK => ?_); apply Exists.intro; constructor; (focus (rintro w' hI; (have tb := hI.blk N1.out (by omega); have u2 := (tb.cell 2).trans rfl; have u3 := (tb.cell 3).trans rfl; have ta := hI.blk N3.out (by omega); have s0 := (ta.cell 0).trans rfl; have s1 := (ta.cell 1).trans rfl; have s2 := (ta.cell 2).trans rfl; have s3 := (ta.cell 3).trans rfl; clear hI tb ta); first | (go_simp; done) | (go_simp; (try go_bits); (try go_simp); rfl) | go_simp)); simp only [Act.put, List.setIfInBounds_toArray, List.set_cons_succ, List.set_cons_zero, List.cons_append, List.nil_append]; apply hK; clear hK K))
          refine phiU_partK (PSto fun wq => Blk wq (w.heap.size + 1) 50 #[.string ⟨#[]⟩, .slice none 0 0, .slice none 0 0, .string (bs tx)]) rfl rfl ⟨_, rfl⟩ ?_ (fun K hK v hv => ?_)
          · intro wq hI hf hu
            have hm : Blk wq (w.heap.size + 1) 50 #[.string ⟨#[]⟩, .slice none 0 0, .slice none 0 0, .string ⟨#[]⟩] := hu (11, fun wq => Blk wq (w.heap.size + 1) 50 #[.string ⟨#[]⟩, .slice none 0 0, .slice none 0 0, .string ⟨#[]⟩]) (by simp) rfl
            exact gives_store (.tmp 4) (.tmp 26) 50 rfl (w.heap.size + 1) 0 _ _ #[.string ⟨#[]⟩, .slice none 0 0, .slice none 0 0, .string (bs tx)] rfl rfl hm (by kernel_rfl) (by simp [Value.oneCell']) (by simp) (fun w2 h2 h3 => ⟨rfl, h2, h3⟩)
          obtain rfl : v = _ := hv
          simp only [Act.put, List.setIfInBounds_toArray, List.set_cons_succ, List.set_cons_zero, List.cons_append, List.nil_append]
          apply hK
          clear hK K
          repeat (first | (refine phiU_skipK rfl (fun K hK => ?_); simp only [Act.put, List.setIfInBounds_toArray, List.set_cons_succ, List.set_cons_zero, List.cons_append, List.nil_append]; apply hK; clear hK K) | (refine phiU_pureK rfl rfl (fun K hK => ?_); apply Exists.intro; constructor; (focus (rintro w' hI; (have tb := hI.blk N1.out (by omega); have u2 := (tb.cell 2).trans rfl; have u3 := (tb.cell 3).trans rfl; have ta := hI.blk N3.out (by omega); have s0 := (ta.cell 0).trans rfl; have s1 := (ta.cell 1).trans rfl; have s2 := (ta.cell 2).trans rfl; have s3 := (ta.cell 3).trans rfl; clear hI tb ta); first | (go_simp; done) | (go_simp; (try go_bits); (try go_simp); rfl) | go_simp)); simp only [Act.put, List.setIfInBounds_toArray, List.set_cons_succ, List.set_cons_zero, List.cons_append, List.nil_append]; apply hK; clear hK K))
          refine phiU_done ?_
          intro w8 hI hf
          have hb8 : Blk w8 (w.heap.size + 1) 50 #[.string ⟨#[]⟩, .slice none 0 0, .slice none 0 0, .string (bs tx)] := hf (11, fun wq => (PSto fun wq => Blk wq (w.heap.size + 1) 50 #[.string ⟨#[]⟩, .slice none 0 0, .slice none 0 0, .string (bs tx)]).fact wq undef) (by simp) rfl
          have z0 := (hb8.cell 0).trans rfl
          have z1 := (hb8.cell 1).trans rfl
          have z2 := (hb8.cell 2).trans rfl
          have z3 := (hb8.cell 3).trans rfl
          have HBW := Lib.hid (B3.out.trans (hI.below (by omega : w.heap.size ≤ w.heap.size + 1)))
          clear hb8 hI hf c2 c3 r0 r1 r2 r3
          refine wpList_nil ?_
          go_wp2_with fail
          refine bodyPost_ret (v := .tuple #[.agg #[.string ⟨#[]⟩, .slice none 0 0, .slice none 0 0, .string (bs tx)], .bool false]) (by simp [results, Tryz.results50, go_sem, z0, z1, z2, z3]) rfl ?_
          exact ⟨HBW.out, .inr ⟨rfl, _, _, _, _, rfl, by simp [Value.oneCell']⟩⟩
      · have hz1 : ((ax.length : Int) == 0) = false := beq_eq_false_iff_ne.2 (by omega)
        obtain rfl : none = R := by rw [← HR.out, if_neg (by omega)]
        clear HR hA
        refine wp_phiU (fun _ wa wb => Only (w.heap.size + 1) wa wb) (fun wq => Only (w.heap.size + 1) w3 wq) [(11, PSto fun wq => Blk wq (w.heap.size + 1) 50 #[.string ⟨#[]⟩, .slice none 0 0, .slice none 0 0, .string (bs tx)])] [] [(11, fun wq => Blk wq (w.heap.size + 1) 50 #[.string ⟨#[]⟩, .slice none 0 0, .slice none 0 0, .string ⟨#[]⟩])] [] (by kernel_rfl) (by kernel_rfl) ?_ ?_ ?_ ?_ (Only.refl _ _).drew ?_
        · intro p hp w1 w2 h1 h2
          exact h1.trans h2
        · simp only [List.mem_cons, List.not_mem_nil, or_false, forall_eq]
          intro h
          exact absurd rfl h
        · simp only [List.mem_cons, List.not_mem_nil, or_false, forall_eq]
          intro h
          exact absurd rfl h
        · simp only [List.mem_cons, List.not_mem_nil, or_false, forall_eq]
          exact N2.out
        repeat (first | (refine phiU_skipK rfl (fun K hK => ?_); simp only [Act.put, List.setIfInBounds_toArray, List.set_cons_succ, List.set_cons_zero, List.cons_append, List.nil_append]; apply hK; clear hK K) | (refine phiU_pureK rfl rfl (fun K hK => ?_); apply Exists.intro; constructor; (focus (rintro w' hI; (have tb := hI.blk N1.out (by omega); have u2 := (tb.cell 2).trans rfl; have u3 := (tb.cell 3).trans rfl; have ta := hI.blk N3.out (by omega); have s0 := (ta.cell 0).trans rfl; have s1 := (ta.cell 1).trans rfl; have s2 := (ta.cell 2).trans rfl; have s3 := (ta.cell 3).trans rfl; clear hI tb ta); first | (go_simp; done) | (go_simp; (try go_bits); (try go_simp); rfl) | go_simp)); simp only [Act.put, List.setIfInBounds_toArray, List.set_cons_succ, List.set_cons_zero, List.cons_append, List.nil_append]; apply hK; clear hK K))
        refine phiU_partK (PSto fun wq => Blk wq (w.heap.size + 1) 50 #[.string ⟨#[]⟩, .slice none 0 0, .slice none 0 0, .string (bs tx)]) rfl rfl ⟨_, rfl⟩ ?_ (fun K hK v hv => ?_)
        · intro wq hI hf hu
          have hm : Blk wq (w.heap.size + 1) 50 #[.string ⟨#[]⟩, .slice none 0 0, .slice none 0 0, .string ⟨#[]⟩] := hu (11, fun wq => Blk wq (w.heap.size + 1) 50 #[.string ⟨#[]⟩, .slice none 0 0, .slice none 0 0, .string ⟨#[]⟩]) (by simp) rfl
          exact gives_store (.tmp 4) (.tmp 26) 50 rfl (w.heap.size + 1) 0 _ _ #[.string ⟨#[]⟩, .slice none 0 0, .slice none 0 0, .string (bs tx)] rfl rfl hm (by kernel_rfl) (by simp [Value.oneCell']) (by simp) (fun w2 h2 h3 => ⟨rfl, h2, h3⟩)
        obtain rfl : v = _ := hv
        simp only [Act.put, List.setIfInBounds_toArray, List.set_cons_succ, List.set_cons_zero, List.cons_append, List.nil_append]
        apply hK
        clear hK K
        repeat (first | (refine phiU_skipK rfl (fun K hK => ?_); simp only [Act.put, List.setIfInBounds_toArray, List.set_cons_succ, List.set_cons_zero, List.cons_append, List.nil_append]; apply hK; clear hK K) | (refine phiU_pureK rfl rfl (fun K hK => ?_); apply Exists.intro; constructor; (focus (rintro w' hI; (have tb := hI.blk N1.out (by omega); have u2 := (tb.cell 2).trans rfl; have u3 := (tb.cell 3).trans rfl; have ta := hI.blk N3.out (by omega); have s0 := (ta.cell 0).trans rfl; have s1 := (ta.cell 1).trans rfl; have s2 := (ta.cell 2).trans rfl; have s3 := (ta.cell 3).trans rfl; clear hI tb ta); first | (go_simp; done) | (go_simp; (try go_bits); (try go_simp); rfl) | go_simp)); simp only [Act.put, List.setIfInBounds_toArray, List.set_cons_succ, List.set_cons_zero, List.cons_append, List.nil_append]; apply hK; clear hK K))
        refine phiU_done ?_
        intro w8 hI hf
        have hb8 : Blk w8 (w.heap.size + 1) 50 #[.string ⟨#[]⟩, .slice none 0 0, .slice none 0 0, .string (bs tx)] := hf (11, fun wq => (PSto fun wq => Blk wq (w.heap.size + 1) 50 #[.string ⟨#[]⟩, .slice none 0 0, .slice none 0 0, .string (bs tx)]).fact wq undef) (by simp) rfl
        have z0 := (hb8.cell 0).trans rfl
        have z1 := (hb8.cell 1).trans rfl
        have z2 := (hb8.cell 2).trans rfl
        have z3 := (hb8.cell 3).trans rfl
        have HBW := Lib.hid (B3.out.trans (hI.below (by omega : w.heap.size ≤ w.heap.size + 1)))
        clear hb8 hI hf c2 c3 r0 r1 r2 r3
        refine wpList_nil ?_
        go_wp2_with fail
        refine bodyPost_ret (v := .tuple #[.agg #[.string ⟨#[]⟩, .slice none 0 0, .slice none 0 0, .string (bs tx)], .bool false]) (by simp [results, Tryz.results50, go_sem, z0, z1, z2, z3]) rfl ?_
        exact ⟨HBW.out, .inr ⟨rfl, _, _, _, _, rfl, by simp [Value.oneCell']⟩⟩
    rw [wri_el h0]
    have hbw3 := B3.out
    obtain ⟨e1, he1⟩ : ∃ e1, (a1 == []) = e1 := ⟨_, rfl⟩
    obtain ⟨e0, he0⟩ : ∃ e0, (a0 == []) = e0 := ⟨_, rfl⟩
    rw [he1] at hi10 hi11
    rw [he0] at hi00 hi01
    have HLC := Lib.hid (rlocal_any a1 (by have := hsa1; omega) w3)
    rw [HW3.out] at HLC
    obtain ⟨R, hR⟩ : ∃ R, (if localB a1 = false then none else (wriAts l ax).bind fun bts => (Tr.wriL l kx).map fun xs => Tr.node [prefixedF l [a0, a1]] bts xs tx) = R := ⟨_, rfl⟩
    rw [hR]
    have HR := Lib.hid hR
    clear hR hbw3
    cases e1
    rotate_left 1
    · have ha1 : a1 = [] := by simpa using he1
      have he0f : e0 = false := by cases e0 with
        | false => rfl
        | true => exact absurd ⟨by simpa using he0, ha1⟩ h0
      subst he0f
      have hlb : localB a1 = false := by rw [ha1]; rfl
      have HR0 : RowKit.Hid (R = none) := Lib.hid (by rw [← HR.out, if_pos hlb])
      rw [hlb] at HLC
      clear HR ha1 hlb he0 he1 h0
      go_enter Tryz.func50, Tryz.ntmps50
      go_wp2_with (first | (go_at_call 93; refine HLC.out.mono ?_; clear HLC; rintro e w4 ⟨rfl, hb4⟩; rw [← HW3.out] at hb4; have hb04 := B3.out.trans (hb4.mono B3.out.size); have ho4 := N3.out.below hb4 N3.out.lt; have s0 := (ho4.cell 0).trans rfl; have s1 := (ho4.cell 1).trans rfl; have s2 := (ho4.cell 2).trans rfl; have s3 := (ho4.cell 3).trans rfl; have HBR4 := Lib.hid (N2.out.below hb4 N2.out.lt); have HB4 := Lib.hid hb04; clear ho4) | (with_reducible refine at_sto 4 42 ?_; refine wpList_store (.tmp 4) (.tmp 42) 50 rfl rfl (w.heap.size + 1) 0 _ _ #[.string ⟨#[]⟩, .slice none 0 0, .slice none 0 0, .string (bs tx)] rfl rfl HBR4.out (by kernel_rfl) (by simp [Value.oneCell']) (by simp) ?_))
      intro w8 hb8 ho8
      have hb8 : Blk w8 (w.heap.size + 1) 50 #[.string ⟨#[]⟩, .slice none 0 0, .slice none 0 0, .string (bs tx)] := hb8
      have z0 := (hb8.cell 0).trans rfl
      have z1 := (hb8.cell 1).trans rfl
      have z2 := (hb8.cell 2).trans rfl
      have z3 := (hb8.cell 3).trans rfl
      have HBW := Lib.hid (HB4.out.trans (ho8.below (by omega : w.heap.size ≤ w.heap.size + 1)))
      clear hb8 ho8
      go_wp2_with fail
      refine bodyPost_ret (v := .tuple #[.agg #[.string ⟨#[]⟩, .slice none 0 0, .slice none 0 0, .string (bs tx)], .bool false]) (by simp [results, Tryz.results50, go_sem, z0, z1, z2, z3]) rfl ?_
      exact ⟨HBW.out, .inr ⟨HR0.out, _, _, _, _, rfl, by simp [Value.oneCell']⟩⟩
    clear hi00 hi01 he0 he1 h0
    cases hlb : localB a1 <;> rw [hlb] at HLC HR
    · have HR0 : RowKit.Hid (R = none) := Lib.hid (by rw [← HR.out, if_pos rfl])
      clear HR
      go_enter Tryz.func50, Tryz.ntmps50
      go_wp2_with (first | (go_at_call 93; refine HLC.out.mono ?_; clear HLC; rintro e w4 ⟨rfl, hb4⟩; rw [← HW3.out] at hb4; have hb04 := B3.out.trans (hb4.mono B3.out.size); have ho4 := N3.out.below hb4 N3.out.lt; have s0 := (ho4.cell 0).trans rfl; have s1 := (ho4.cell 1).trans rfl; have s2 := (ho4.cell 2).trans rfl; have s3 := (ho4.cell 3).trans rfl; have HBR4 := Lib.hid (N2.out.below hb4 N2.out.lt); have HB4 := Lib.hid hb04; clear ho4) | (with_reducible refine at_sto 4 42 ?_; refine wpList_store (.tmp 4) (.tmp 42) 50 rfl rfl (w.heap.size + 1) 0 _ _ #[.string ⟨#[]⟩, .slice none 0 0, .slice none 0 0, .string (bs tx)] rfl rfl HBR4.out (by kernel_rfl) (by simp [Value.oneCell']) (by simp) ?_))
      intro w8 hb8 ho8
      have hb8 : Blk w8 (w.heap.size + 1) 50 #[.string ⟨#[]⟩, .slice none 0 0, .slice none 0 0, .string (bs tx)] := hb8
      have z0 := (hb8.cell 0).trans rfl
      have z1 := (hb8.cell 1).trans rfl
      have z2 := (hb8.cell 2).trans rfl
      have z3 := (hb8.cell 3).trans rfl
      have HBW := Lib.hid (HB4.out.trans (ho8.below (by omega : w.heap.size ≤ w.heap.size + 1)))
      clear hb8 ho8
      go_wp2_with fail
      refine bodyPost_ret (v := .tuple #[.agg #[.string ⟨#[]⟩, .slice none 0 0, .slice none 0 0, .string (bs tx)], .bool false]) (by simp [results, Tryz.results50, go_sem, z0, z1, z2, z3]) rfl ?_
      exact ⟨HBW.out, .inr ⟨HR0.out, _, _, _, _, rfl, by simp [Value.oneCell']⟩⟩
    obtain ⟨M0, hM0⟩ : ∃ M0, prefixedF l [a0, a1] = M0 := ⟨_, rfl⟩
    have HPR := Lib.hid (fun w' (hb : Below w.heap.size w w') => rprefixed_any l a0 a1 pl cl w' (HRD.out.keep (Below.keeps hb)) hlc hlm (by omega) (by have := hsa1; omega))
    rw [hM0] at HPR HR
    have HR3 : RowKit.Hid (((wriAts l ax).bind fun bts => (Tr.wriL l kx).map fun xs => Tr.node [M0] bts xs tx) = R) := Lib.hid (by rw [← HR.out, if_neg (by decide)])
    clear HR hM0 hlb
    go_enter Tryz.func50, Tryz.ntmps50
    go_wp2_with (first | (go_at_call 93; refine HLC.out.mono ?_; clear HLC; rintro e w4 ⟨rfl, hb4⟩; rw [← HW3.out] at hb4; have hb04 := B3.out.trans (hb4.mono B3.out.size); have hx4 := N1.out.below hb4 N1.out.lt; have d0 := (hx4.cell 0).trans rfl; have d1 := (hx4.cell 1).trans rfl; clear hx4) | (go_at_call 94; refine (HPR.out _ hb04).mono ?_; rintro e w5 ⟨rfl, hb5⟩; have hB5 := hb04.trans (hb5.mono hb04.size); have ho5 := (N3.out.below (hb4.trans (hb5.mono hb4.size)) N3.out.lt); have hx5 := (N1.out.below (hb4.trans (hb5.mono hb4.size)) N1.out.lt); have hr5 := (N2.out.below (hb4.trans (hb5.mono hb4.size)) N2.out.lt); have f0 := ho5.frozen 0; have s0 := (ho5.cell 0).trans rfl; have hx6 := hx5.far (b := (w.heap.size + 1 + 1)) (by omega) 0 (.string (bs M0)); have k2 := (hx6.cell 2).trans rfl; have HO6 := Lib.hid (ho5.set_ 0 (.string (bs M0))); have HR6 := Lib.hid (hr5.far (b := (w.heap.size + 1 + 1)) (by omega) 0 (.string (bs M0))); have HX6 := Lib.hid hx6; have HB6 := Lib.hid (hB5.trans (((Only.refl (w.heap.size + 1 + 1) w5).set_ 0 (.string (bs M0))).below (by omega))); clear ho5 hx5 hr5 hb5 hB5))
    obtain ⟨w6, hw6⟩ : ∃ w6, w6 = w5.setCell ⟨(w.heap.size + 1 + 1), 0, none⟩ (.string (bs M0)) := ⟨_, rfl⟩
    rw [← hw6] at HO6 HR6 HX6 HB6 k2 ⊢
    have hb6 : Blk w6 (w.heap.size + 1 + 1) 50 #[.string (bs M0), .slice none 0 0, .slice none 0 0, .string (bs tx)] := HO6.out
    have HBO := Lib.hid hb6
    have h6lt := hb6.lt
    clear HO6 hb6 hw6 f0 s0 c0 c1 c2 c3 r0 r1 r2 r3 q4 hi10 hi11 hb4 hb04 HW3 hx6
    clear k2
    go_loopw [51] (fun i wr => ∃ (j : Nat) (bts : List (List (List UInt8))) (po : Option Addr) (co : Nat), j ≤ ax.length ∧ i = .int .i64 j ∧ wriAts l (ax.take j) = some bts ∧ wr.ownsRow w6.heap.size 91 2 (.slice po j co) j (acells bts) ∧ Blk wr (w.heap.size + 1 + 1) 50 #[.string (bs M0), .slice po j co, .slice none 0 0, .string (bs tx)] ∧ Kx (w.heap.size + 1 + 1) w6 wr) (fun i _ => ax.length - (intOf i).toNat)
    case atStart => exact ⟨0, [], none, 0, by omega, rfl, rfl, World.ownsRow_nil _ _ _ _, HBO.out, Kx.refl _ _⟩
    case round =>
      obtain ⟨j, bts, po, co, hj, rfl, hat, hown, hbo, hkx⟩ := hrel
      have hbw := hkx.under HB6.out (by omega) (by omega)
      by_cases hlt : j < ax.length
      · obtain ⟨e1, o1, x0, x1, x2, rfl, hgx, hx0, hx1, hx2⟩ := at_2 HA.out HX2.out hlt
        have hx0 := Below.keeps hbw _ _ hx0
        have hx1 := Below.keeps hbw _ _ hx1
        have hx2 := Below.keeps hbw _ _ hx2
        have hlt' : (j : Int) < (ax.length : Int) := by omega
        have hx0s : shS x0 := HS2.out _ (List.getElem_mem hlt) x0 (by rw [hgx]; simp)
        have hx1s : shS x1 := HS2.out _ (List.getElem_mem hlt) x1 (by rw [hgx]; simp)
        have HST := Lib.hid (wriAts_step hlt hgx hat)
        have hbA := below_alloc1 wr (.cells #[.string (bs x0), .string (bs x1), .string (bs x2)] 93)
        have HLC2 := Lib.hid (rlocal_any x1 (by have := hx1s; omega) (wr.alloc (.cells #[.string (bs x0), .string (bs x1), .string (bs x2)] 93)))
        have hNA := Blk.new wr 93 #[.string (bs x0), .string (bs x1), .string (bs x2)]
        have c0 := (hNA.cell 0).trans rfl
        have c1 := (hNA.cell 1).trans rfl
        have i00 : x0.isEmpty = (x0 == []) := by cases x0 <;> rfl
        have i01 : (bs x0).toList.isEmpty = (x0 == []) := isE_bs x0
        have HVL := Lib.hid (fun g hg => hown.lt g hg)
        have HNA := Lib.hid hNA
        have HOA := Lib.hid (hbo.alloc (.cells #[.string (bs x0), .string (bs x1), .string (bs x2)] 93))
        have HWA := Lib.hid (owns_below hown hbA)
        have HKA := Lib.hid (hkx.belowK hbA)
        have HAT := Lib.hid hat
        have hkr := hkx.size
        have hbd : ∀ b, (!localB x1 || (x0 == [] && x1 == [120, 109, 108, 110, 115])) = b → b = true → R = none := fun b h1 h2 => by
          have h := HST.out
          rw [h1, h2, if_pos rfl] at h
          rw [← HR3.out, wriAts_bad h]
          rfl
        have HBD := Lib.hid hbd
        clear hgx hat hown hbo hkx hbw hNA hbA hbd
        cases hl1 : localB x1 <;> rw [hl1] at HLC2 HBD HST
        · have HR0 : RowKit.Hid (R = none) := Lib.hid (HBD.out true rfl rfl)
          clear HBD HST
          go_wp2_with (first | (go_at_call 93; refine HLC2.out.mono ?_; clear HLC2; rintro e w7 ⟨rfl, hb7⟩; have HN7 := Lib.hid (HNA.out.below hb7 HNA.out.lt); have HO7 := Lib.hid (HOA.out.below hb7 HOA.out.lt); have HW7 := Lib.hid (owns_below HWA.out hb7); have HK7 := Lib.hid (HKA.out.belowK hb7); have hs7 := hb7.size; have d0 := (HN7.out.cell 0).trans rfl; have d1 := (HN7.out.cell 1).trans rfl; have t0 := (HO7.out.cell 0).trans rfl; have t1 := (HO7.out.cell 1).trans rfl; have t2 := (HO7.out.cell 2).trans rfl; have t3 := (HO7.out.cell 3).trans rfl; have HBR7 := Lib.hid (HK7.out.blkK HR6.out (by omega)); have HB7 := Lib.hid (HK7.out.under HB6.out (by omega) (by omega)); clear hb7) | (with_reducible refine at_sto 4 72 ?_; refine wpList_store (.tmp 4) (.tmp 72) 50 rfl rfl (w.heap.size + 1) 0 _ _ #[.string (bs M0), .slice po j co, .slice none 0 0, .string (bs tx)] rfl rfl HBR7.out (by kernel_rfl) (by simp [Value.oneCell']) (by simp) ?_))
          intro w8 hb8 ho8
          have hb8 : Blk w8 (w.heap.size + 1) 50 #[.string (bs M0), .slice po j co, .slice none 0 0, .string (bs tx)] := hb8
          have z0 := (hb8.cell 0).trans rfl
          have z1 := (hb8.cell 1).trans rfl
          have z2 := (hb8.cell 2).trans rfl
          have z3 := (hb8.cell 3).trans rfl
          have HBW := Lib.hid (HB7.out.trans (ho8.below (by omega : w.heap.size ≤ w.heap.size + 1)))
          clear hb8 ho8
          go_wp2_with fail
          refine bodyPost_ret (v := .tuple #[.agg #[.string (bs M0), .slice po j co, .slice none 0 0, .string (bs tx)], .bool false]) (by simp [results, Tryz.results50, go_sem, z0, z1, z2, z3]) rfl ?_
          exact ⟨HBW.out, .inr ⟨HR0.out, _, _, _, _, rfl, by simp [Value.oneCell']⟩⟩
        cases h1 : (x0 == []) <;> rw [h1] at HBD HST i00 i01
        rotate_left 1
        · cases h2 : (x1 == [120, 109, 108, 110, 115]) <;> rw [h2] at HBD HST
          rotate_left 1
          · have HR0 : RowKit.Hid (R = none) := Lib.hid (HBD.out true rfl rfl)
            clear HBD HST
            go_wp2_with (first | (go_at_call 93; refine HLC2.out.mono ?_; clear HLC2; rintro e w7 ⟨rfl, hb7⟩; have HN7 := Lib.hid (HNA.out.below hb7 HNA.out.lt); have HO7 := Lib.hid (HOA.out.below hb7 HOA.out.lt); have HW7 := Lib.hid (owns_below HWA.out hb7); have HK7 := Lib.hid (HKA.out.belowK hb7); have hs7 := hb7.size; have d0 := (HN7.out.cell 0).trans rfl; have d1 := (HN7.out.cell 1).trans rfl; have t0 := (HO7.out.cell 0).trans rfl; have t1 := (HO7.out.cell 1).trans rfl; have t2 := (HO7.out.cell 2).trans rfl; have t3 := (HO7.out.cell 3).trans rfl; have HBR7 := Lib.hid (HK7.out.blkK HR6.out (by omega)); have HB7 := Lib.hid (HK7.out.under HB6.out (by omega) (by omega)); clear hb7) | (with_reducible refine at_sto 4 72 ?_; refine wpList_store (.tmp 4) (.tmp 72) 50 rfl rfl (w.heap.size + 1) 0 _ _ #[.string (bs M0), .slice po j co, .slice none 0 0, .string (bs tx)] rfl rfl HBR7.out (by kernel_rfl) (by simp [Value.oneCell']) (by simp) ?_))
            intro w8 hb8 ho8
            have hb8 : Blk w8 (w.heap.size + 1) 50 #[.string (bs M0), .slice po j co, .slice none 0 0, .string (bs tx)] := hb8
            have z0 := (hb8.cell 0).trans rfl
            have z1 := (hb8.cell 1).trans rfl
            have z2 := (hb8.cell 2).trans rfl
            have z3 := (hb8.cell 3).trans rfl
            have HBW := Lib.hid (HB7.out.trans (ho8.below (by omega : w.heap.size ≤ w.heap.size + 1)))
            clear hb8 ho8
            go_wp2_with fail
            refine bodyPost_ret (v := .tuple #[.agg #[.string (bs M0), .slice po j co, .slice none 0 0, .string (bs tx)], .bool false]) (by simp [results, Tryz.results50, go_sem, z0, z1, z2, z3]) rfl ?_
            exact ⟨HBW.out, .inr ⟨HR0.out, _, _, _, _, rfl, by simp [Value.oneCell']⟩⟩
          have HST2 : RowKit.Hid (wriAts l (ax.take (j + 1)) = some (bts ++ [[prefixedF l [x0, x1], x2]])) := Lib.hid (HST.out.trans (if_neg (by decide)))
          clear HBD HST
          obtain ⟨nn, hnn⟩ : ∃ nn, prefixedF l [x0, x1] = nn := ⟨_, rfl⟩
          have HPX := Lib.hid (fun w' (hb : Below w.heap.size w w') => rprefixed_any l x0 x1 pl cl w' (HRD.out.keep (Below.keeps hb)) hlc hlm (by omega) (by have := hx1s; omega))
          rw [hnn] at HPX HST2
          obtain ⟨i8, hi8, hv0, hv1, hv2⟩ := info_parts attr23_info
          clear hnn
          go_wp2_with (go_at_call 93; refine HLC2.out.mono ?_; clear HLC2; rintro e w7 ⟨rfl, hb7⟩; have HN7 := Lib.hid (HNA.out.below hb7 HNA.out.lt); have HO7 := Lib.hid (HOA.out.below hb7 HOA.out.lt); have HW7 := Lib.hid (owns_below HWA.out hb7); have HK7 := Lib.hid (HKA.out.belowK hb7); have hs7 := hb7.size; have d0 := (HN7.out.cell 0).trans rfl; have d1 := (HN7.out.cell 1).trans rfl;  clear hb7)
          have hwz : wr.heap.size + 1 ≤ w7.heap.size := by have := hs7; simpa using this
          clear c0 c1 hx0 hx1 hx2 d0 d1 i00 i01 hs7
          refine wp_phiU_tail (List.take 12 _) (List.drop 12 _) (List.take_append_drop 12 _).symm (rT 10 w6.heap.size 2 91 (.slice po j co) j)
            (fun w' => Blk w' (w.heap.size + 1 + 1) 50 #[.string (bs M0), .slice po j co, .slice none 0 0, .string (bs tx)] ∧ Blk w' wr.heap.size 93 #[.string (bs x0), .string (bs x1), .string (bs x2)] ∧ Kx (w.heap.size + 1 + 1) w6 w' ∧ wr.heap.size + 1 ≤ w'.heap.size)
            [(5, PVal (.string (bs nn))), (9, PBlk wr.heap.size 91 #[.string (bs nn), .string (bs x2)] 1), (10, PApR w6.heap.size 2 91 (j + 1) (acells bts ++ ([.string (bs nn), .string (bs x2)] : List Value)))] [(9, [5]), (10, [5, 9])] [(10, fun w' => w'.ownsRow w6.heap.size 91 2 (.slice po j co) j (acells bts))] [] (by kernel_rfl) (by kernel_rfl) ?_ ?_ ?_ ?_ ?_ ?_
          · rintro p _ w1 w2' ⟨g1, g2, g7, g8⟩ hR
            refine ⟨rT_blklo hR g1 (by omega), rT_blk hR g2 (fun e => by have := (HVL.out _ e).2; omega), ?_, Nat.le_trans g8 (rT_size hR)⟩
            unfold rT at hR
            split at hR
            · exact g7.grownN hR.2 (fun b hb => (HVL.out b hb).1)
            · exact g7.belowK hR
          · intro p hp p' hp' hne hks hns w1 w2' v hI hR hf
            have hv : ∀ g, (Value.slice po j co).ownBlock = some g → g < wr.heap.size := fun g hg => (HVL.out g hg).2
            simp only [List.mem_cons, List.not_mem_nil, or_false] at hp hp'
            rcases hp with rfl | rfl | rfl
            · exact hf
            · exact fun g hg => ⟨(hf g hg).1, rT_blk hR (hf g hg).2 fun e => by (have h1 := (hf g hg).1; have h2 := hv g e; omega)⟩
            · rcases hp' with rfl | rfl | rfl
              · exact absurd (show (5 : Nat) ∈ needs [(9, [5]), (10, [5, 9])] 10 by decide) hns
              · exact absurd (show (9 : Nat) ∈ needs [(9, [5]), (10, [5, 9])] 10 by decide) hns
              · exact absurd rfl hne
          · intro p hp u hu hne w1 w2' hI hR hf
            simp only [List.mem_cons, List.not_mem_nil, or_false] at hp hu
            subst hu
            rcases hp with rfl | rfl | rfl
            · have hR := rT_o (show (5 : Nat) ≠ 10 by decide) ▸ hR
              exact owns_below hf hR
            · have hR := rT_o (show (9 : Nat) ≠ 10 by decide) ▸ hR
              exact owns_below hf hR
            · exact absurd rfl hne
          · intro u hu
            simp only [List.mem_cons, List.not_mem_nil, or_false] at hu
            subst hu
            exact owns_below HW7.out (Below.refl _ _).drew
          · exact ⟨HO7.out, HN7.out, HK7.out.belowK (Below.refl _ _).drew, hwz⟩
          simp only [List.take_succ_cons, List.take_zero, List.drop_succ_cons, List.drop_zero]
          clear HO7 HN7 HW7
          repeat (first | (refine phiU_skipK rfl (fun K hK => ?_); simp only [Act.put, List.setIfInBounds_toArray, List.set_cons_succ, List.set_cons_zero, List.cons_append, List.nil_append]; apply hK; clear hK K) | (refine phiU_pureK rfl rfl (fun K hK => ?_); apply Exists.intro; constructor; (focus (rintro w' ⟨g1, g2, g7, g8⟩; have k1 := (g1.cell 1).trans rfl; have q0 := (g2.cell 0).trans rfl; have q1 := (g2.cell 1).trans rfl; have q2 := (g2.cell 2).trans rfl; clear g1 g2 g7 g8; first | (go_simp; done) | (go_simp; (try go_bits); (try go_simp); rfl) | go_simp)); simp only [Act.put, List.setIfInBounds_toArray, List.set_cons_succ, List.set_cons_zero, List.cons_append, List.nil_append]; apply hK; clear hK K))
          refine phiU_partK (PVal (.string (bs nn))) rfl rfl ⟨_, rfl⟩ ?_ (fun K hK v hv => ?_)
          · rintro w' ⟨g1, g2, g7, g8⟩ hf hu
            clear hf hu
            unfold gives
            have HC := Lib.hid (HPX.out w' (g7.under HB6.out (by omega) (by omega)))
            clear g1 g2 g7 g8
            go_simp
            refine HC.out.mono ?_
            rintro e w'' ⟨rfl, hb⟩
            exact ⟨_, rfl, rfl, trivial, by rw [rT_o (by decide)]; exact hb⟩
          obtain rfl : v = _ := hv
          simp only [Act.put, List.setIfInBounds_toArray, List.set_cons_succ, List.set_cons_zero, List.cons_append, List.nil_append]
          apply hK
          clear hK K
          repeat (first | (refine phiU_skipK rfl (fun K hK => ?_); simp only [Act.put, List.setIfInBounds_toArray, List.set_cons_succ, List.set_cons_zero, List.cons_append, List.nil_append]; apply hK; clear hK K) | (refine phiU_pureK rfl rfl (fun K hK => ?_); apply Exists.intro; constructor; (focus (rintro w' ⟨g1, g2, g7, g8⟩; have k1 := (g1.cell 1).trans rfl; have q0 := (g2.cell 0).trans rfl; have q1 := (g2.cell 1).trans rfl; have q2 := (g2.cell 2).trans rfl; clear g1 g2 g7 g8; first | (go_simp; done) | (go_simp; (try go_bits); (try go_simp); rfl) | go_simp)); simp only [Act.put, List.setIfInBounds_toArray, List.set_cons_succ, List.set_cons_zero, List.cons_append, List.nil_append]; apply hK; clear hK K))
          refine phiU_partK (PBlk wr.heap.size 91 #[.string (bs nn), .string (bs x2)] 1) rfl rfl ⟨_, 0, rfl⟩ ?_ (fun K hK v hv => ?_)
          · rintro w' ⟨g1, g2, g7, g8⟩ hf hu
            have HG := Lib.hid g8
            clear hf hu g1 g2 g7 g8
            unfold gives
            go_simp
            refine ⟨⟨_, rfl⟩, fun g hg => ?_, by rw [rT_o (by decide)]; exact below_alloc1 _ _⟩
            obtain rfl : w'.heap.size = g := by simpa using hg
            exact ⟨by have := HG.out; omega, Blk.new _ _ _⟩
          obtain ⟨g7', rfl⟩ := hv
          simp only [Act.put, List.setIfInBounds_toArray, List.set_cons_succ, List.set_cons_zero, List.cons_append, List.nil_append]
          apply hK
          clear hK K
          refine phiU_partK (PApR w6.heap.size 2 91 (j + 1) (acells bts ++ ([.string (bs nn), .string (bs x2)] : List Value))) rfl rfl ⟨_, none, 0, rfl⟩ ?_ (fun K hK v hv => ?_)
          · rintro w' ⟨g1, g2, g7, g8⟩ hf hu
            have h4 := hf (9, fun w1 => (PBlk wr.heap.size 91 #[.string (bs nn), .string (bs x2)] 1).fact w1 (.slice (some ⟨g7', 0, none⟩) 1 1)) (by simp) (List.contains_iff_mem.1 rfl) rfl
            obtain ⟨h4b, b4⟩ := h4 g7' rfl
            have hu8 : w'.ownsRow w6.heap.size 91 2 (.slice po j co) j (acells bts) := hu (10, fun w' => w'.ownsRow w6.heap.size 91 2 (.slice po j co) j (acells bts)) (by simp) rfl
            clear hf hu h4
            refine gives_appAt (.tmp 74) (.tmp 82) 47 rfl w6.heap.size 91 i8 (.agg #[.string ⟨#[]⟩, .string ⟨#[]⟩]) 2 32 Tryz.underlying47 hi8 hv0 hv1 hv2 rfl (by decide) _ _ _ rfl hu8 _ _ _ [.string (bs nn), .string (bs x2)] rfl rfl (.inr ⟨g7', 0, rfl, fun i u hiu => ?_⟩) (by simp [Value.oneCell']) (by unfold maxLen; omega) (by omega) (by omega) ?_
            · rw [Nat.zero_add, b4.cell]
              simpa using hiu
            intro v2 w2' ho2 hg2 hat2
            obtain ⟨p2, c2, rfl, _, _, _⟩ := owns_rd ho2
            refine ⟨⟨p2, c2, rfl⟩, ho2, ?_⟩
            rw [rT_at]
            exact ⟨⟨_, hu8⟩, hg2⟩
          obtain ⟨p8, c8, rfl⟩ := hv
          simp only [Act.put, List.setIfInBounds_toArray, List.set_cons_succ, List.set_cons_zero, List.cons_append, List.nil_append]
          apply hK
          clear hK K
          repeat (first | (refine phiU_skipK rfl (fun K hK => ?_); simp only [Act.put, List.setIfInBounds_toArray, List.set_cons_succ, List.set_cons_zero, List.cons_append, List.nil_append]; apply hK; clear hK K) | (refine phiU_pureK rfl rfl (fun K hK => ?_); apply Exists.intro; constructor; (focus (rintro w' ⟨g1, g2, g7, g8⟩; have k1 := (g1.cell 1).trans rfl; clear g1 g2 g7 g8; first | (go_simp; done) | (go_simp; (try go_bits); (try go_simp); rfl) | go_simp)); simp only [Act.put, List.setIfInBounds_toArray, List.set_cons_succ, List.set_cons_zero, List.cons_append, List.nil_append]; apply hK; clear hK K))
          refine phiU_done ?_
          rintro w9 ⟨g1, g2, g7, g8⟩ hf
          have h10 := hf (10, fun w1 => (PApR w6.heap.size 2 91 (j + 1) (acells bts ++ ([.string (bs nn), .string (bs x2)] : List Value))).fact w1 (.slice p8 (j + 1) c8)) (by simp) rfl
          have ho9 : w9.ownsRow w6.heap.size 91 2 (.slice p8 (j + 1) c8) (j + 1) (acells bts ++ [.string (bs nn), .string (bs x2)]) := h10
          have f1 := g1.frozen 1
          have k1 := (g1.cell 1).trans rfl
          have O9 := ((Only.refl (w.heap.size + 1 + 1) w9).set_ 1 (.slice p8 (j + 1) c8))
          have R3 := Lib.hid (show Blk (w9.setCell ⟨(w.heap.size + 1 + 1), 1, none⟩ (.slice p8 (j + 1) c8)) (w.heap.size + 1 + 1) 50 #[.string (bs M0), .slice p8 (j + 1) c8, .slice none 0 0, .string (bs tx)] from g1.set_ 1 _)
          have R4 := Lib.hid (g7.onlyK O9)
          have R5 := Lib.hid (show (w9.setCell ⟨(w.heap.size + 1 + 1), 1, none⟩ (.slice p8 (j + 1) c8)).ownsRow w6.heap.size 91 2 (.slice p8 (j + 1) c8) (j + 1) (acells (bts ++ [[nn, x2]])) from by rw [acells_snoc]; exact O9.owns2 ho9 h6lt)
          clear hf g1 g2 g7 g8 O9 ho9 h10 HVL HAT
          go_wp2_with fail
          go_roundw
          case rel => exact ⟨j + 1, bts ++ [[nn, x2]], p8, c8, by omega, by go_num, HST2.out, R5.out, R3.out, R4.out⟩
          case measure => simp [intOf]; omega
        have HST2 : RowKit.Hid (wriAts l (ax.take (j + 1)) = some (bts ++ [[prefixedF l [x0, x1], x2]])) := Lib.hid (HST.out.trans (if_neg (by simp)))
        clear HBD HST
        obtain ⟨nn, hnn⟩ : ∃ nn, prefixedF l [x0, x1] = nn := ⟨_, rfl⟩
        have HPX := Lib.hid (fun w' (hb : Below w.heap.size w w') => rprefixed_any l x0 x1 pl cl w' (HRD.out.keep (Below.keeps hb)) hlc hlm (by omega) (by have := hx1s; omega))
        rw [hnn] at HPX HST2
        obtain ⟨i8, hi8, hv0, hv1, hv2⟩ := info_parts attr23_info
        clear hnn
        go_wp2_with (go_at_call 93; refine HLC2.out.mono ?_; clear HLC2; rintro e w7 ⟨rfl, hb7⟩; have HN7 := Lib.hid (HNA.out.below hb7 HNA.out.lt); have HO7 := Lib.hid (HOA.out.below hb7 HOA.out.lt); have HW7 := Lib.hid (owns_below HWA.out hb7); have HK7 := Lib.hid (HKA.out.belowK hb7); have hs7 := hb7.size; have d0 := (HN7.out.cell 0).trans rfl; have d1 := (HN7.out.cell 1).trans rfl;  clear hb7)
        have hwz : wr.heap.size + 1 ≤ w7.heap.size := by have := hs7; simpa using this
        clear c0 c1 hx0 hx1 hx2 d0 d1 i00 i01 hs7
        refine wp_phiU_tail (List.take 12 _) (List.drop 12 _) (List.take_append_drop 12 _).symm (rT 10 w6.heap.size 2 91 (.slice po j co) j)
          (fun w' => Blk w' (w.heap.size + 1 + 1) 50 #[.string (bs M0), .slice po j co, .slice none 0 0, .string (bs tx)] ∧ Blk w' wr.heap.size 93 #[.string (bs x0), .string (bs x1), .string (bs x2)] ∧ Kx (w.heap.size + 1 + 1) w6 w' ∧ wr.heap.size + 1 ≤ w'.heap.size)
          [(5, PVal (.string (bs nn))), (9, PBlk wr.heap.size 91 #[.string (bs nn), .string (bs x2)] 1), (10, PApR w6.heap.size 2 91 (j + 1) (acells bts ++ ([.string (bs nn), .string (bs x2)] : List Value)))] [(9, [5]), (10, [5, 9])] [(10, fun w' => w'.ownsRow w6.heap.size 91 2 (.slice po j co) j (acells bts))] [] (by kernel_rfl) (by kernel_rfl) ?_ ?_ ?_ ?_ ?_ ?_
        · rintro p _ w1 w2' ⟨g1, g2, g7, g8⟩ hR
          refine ⟨rT_blklo hR g1 (by omega), rT_blk hR g2 (fun e => by have := (HVL.out _ e).2; omega), ?_, Nat.le_trans g8 (rT_size hR)⟩
          unfold rT at hR
          split at hR
          · exact g7.grownN hR.2 (fun b hb => (HVL.out b hb).1)
          · exact g7.belowK hR
        · intro p hp p' hp' hne hks hns w1 w2' v hI hR hf
          have hv : ∀ g, (Value.slice po j co).ownBlock = some g → g < wr.heap.size := fun g hg => (HVL.out g hg).2
          simp only [List.mem_cons, List.not_mem_nil, or_false] at hp hp'
          rcases hp with rfl | rfl | rfl
          · exact hf
          · exact fun g hg => ⟨(hf g hg).1, rT_blk hR (hf g hg).2 fun e => by (have h1 := (hf g hg).1; have h2 := hv g e; omega)⟩
          · rcases hp' with rfl | rfl | rfl
            · exact absurd (show (5 : Nat) ∈ needs [(9, [5]), (10, [5, 9])] 10 by decide) hns
            · exact absurd (show (9 : Nat) ∈ needs [(9, [5]), (10, [5, 9])] 10 by decide) hns
            · exact absurd rfl hne
        · intro p hp u hu hne w1 w2' hI hR hf
          simp only [List.mem_cons, List.not_mem_nil, or_false] at hp hu
          subst hu
          rcases hp with rfl | rfl | rfl
          · have hR := rT_o (show (5 : Nat) ≠ 10 by decide) ▸ hR
            exact owns_below hf hR
          · have hR := rT_o (show (9 : Nat) ≠ 10 by decide) ▸ hR
            exact owns_below hf hR
          · exact absurd rfl hne
        · intro u hu
          simp only [List.mem_cons, List.not_mem_nil, or_false] at hu
          subst hu
          exact owns_below HW7.out (Below.refl _ _).drew
        · exact ⟨HO7.out, HN7.out, HK7.out.belowK (Below.refl _ _).drew, hwz⟩
        simp only [List.take_succ_cons, List.take_zero, List.drop_succ_cons, List.drop_zero]
        clear HO7 HN7 HW7
        repeat (first | (refine phiU_skipK rfl (fun K hK => ?_); simp only [Act.put, List.setIfInBounds_toArray, List.set_cons_succ, List.set_cons_zero, List.cons_append, List.nil_append]; apply hK; clear hK K) | (refine phiU_pureK rfl rfl (fun K hK => ?_); apply Exists.intro; constructor; (focus (rintro w' ⟨g1, g2, g7, g8⟩; have k1 := (g1.cell 1).trans rfl; have q0 := (g2.cell 0).trans rfl; have q1 := (g2.cell 1).trans rfl; have q2 := (g2.cell 2).trans rfl; clear g1 g2 g7 g8; first | (go_simp; done) | (go_simp; (try go_bits); (try go_simp); rfl) | go_simp)); simp only [Act.put, List.setIfInBounds_toArray, List.set_cons_succ, List.set_cons_zero, List.cons_append, List.nil_append]; apply hK; clear hK K))
        refine phiU_partK (PVal (.string (bs nn))) rfl rfl ⟨_, rfl⟩ ?_ (fun K hK v hv => ?_)
        · rintro w' ⟨g1, g2, g7, g8⟩ hf hu
          clear hf hu
          unfold gives
          have HC := Lib.hid (HPX.out w' (g7.under HB6.out (by omega) (by omega)))
          clear g1 g2 g7 g8
          go_simp
          refine HC.out.mono ?_
          rintro e w'' ⟨rfl, hb⟩
          exact ⟨_, rfl, rfl, trivial, by rw [rT_o (by decide)]; exact hb⟩
        obtain rfl : v = _ := hv
        simp only [Act.put, List.setIfInBounds_toArray, List.set_cons_succ, List.set_cons_zero, List.cons_append, List.nil_append]
        apply hK
        clear hK K
        repeat (first | (refine phiU_skipK rfl (fun K hK => ?_); simp only [Act.put, List.setIfInBounds_toArray, List.set_cons_succ, List.set_cons_zero, List.cons_append, List.nil_append]; apply hK; clear hK K) | (refine phiU_pureK rfl rfl (fun K hK => ?_); apply Exists.intro; constructor; (focus (rintro w' ⟨g1, g2, g7, g8⟩; have k1 := (g1.cell 1).trans rfl; have q0 := (g2.cell 0).trans rfl; have q1 := (g2.cell 1).trans rfl; have q2 := (g2.cell 2).trans rfl; clear g1 g2 g7 g8; first | (go_simp; done) | (go_simp; (try go_bits); (try go_simp); rfl) | go_simp)); simp only [Act.put, List.setIfInBounds_toArray, List.set_cons_succ, List.set_cons_zero, List.cons_append, List.nil_append]; apply hK; clear hK K))
        refine phiU_partK (PBlk wr.heap.size 91 #[.string (bs nn), .string (bs x2)] 1) rfl rfl ⟨_, 0, rfl⟩ ?_ (fun K hK v hv => ?_)
        · rintro w' ⟨g1, g2, g7, g8⟩ hf hu
          have HG := Lib.hid g8
          clear hf hu g1 g2 g7 g8
          unfold gives
          go_simp
          refine ⟨⟨_, rfl⟩, fun g hg => ?_, by rw [rT_o (by decide)]; exact below_alloc1 _ _⟩
          obtain rfl : w'.heap.size = g := by simpa using hg
          exact ⟨by have := HG.out; omega, Blk.new _ _ _⟩
        obtain ⟨g7', rfl⟩ := hv
        simp only [Act.put, List.setIfInBounds_toArray, List.set_cons_succ, List.set_cons_zero, List.cons_append, List.nil_append]
        apply hK
        clear hK K
        refine phiU_partK (PApR w6.heap.size 2 91 (j + 1) (acells bts ++ ([.string (bs nn), .string (bs x2)] : List Value))) rfl rfl ⟨_, none, 0, rfl⟩ ?_ (fun K hK v hv => ?_)
        · rintro w' ⟨g1, g2, g7, g8⟩ hf hu
          have h4 := hf (9, fun w1 => (PBlk wr.heap.size 91 #[.string (bs nn), .string (bs x2)] 1).fact w1 (.slice (some ⟨g7', 0, none⟩) 1 1)) (by simp) (List.contains_iff_mem.1 rfl) rfl
          obtain ⟨h4b, b4⟩ := h4 g7' rfl
          have hu8 : w'.ownsRow w6.heap.size 91 2 (.slice po j co) j (acells bts) := hu (10, fun w' => w'.ownsRow w6.heap.size 91 2 (.slice po j co) j (acells bts)) (by simp) rfl
          clear hf hu h4
          refine gives_appAt (.tmp 74) (.tmp 82) 47 rfl w6.heap.size 91 i8 (.agg #[.string ⟨#[]⟩, .string ⟨#[]⟩]) 2 32 Tryz.underlying47 hi8 hv0 hv1 hv2 rfl (by decide) _ _ _ rfl hu8 _ _ _ [.string (bs nn), .string (bs x2)] rfl rfl (.inr ⟨g7', 0, rfl, fun i u hiu => ?_⟩) (by simp [Value.oneCell']) (by unfold maxLen; omega) (by omega) (by omega) ?_
          · rw [Nat.zero_add, b4.cell]
            simpa using hiu
          intro v2 w2' ho2 hg2 hat2
          obtain ⟨p2, c2, rfl, _, _, _⟩ := owns_rd ho2
          refine ⟨⟨p2, c2, rfl⟩, ho2, ?_⟩
          rw [rT_at]
          exact ⟨⟨_, hu8⟩, hg2⟩
        obtain ⟨p8, c8, rfl⟩ := hv
        simp only [Act.put, List.setIfInBounds_toArray, List.set_cons_succ, List.set_cons_zero, List.cons_append, List.nil_append]
        apply hK
        clear hK K
        repeat (first | (refine phiU_skipK rfl (fun K hK => ?_); simp only [Act.put, List.setIfInBounds_toArray, List.set_cons_succ, List.set_cons_zero, List.cons_append, List.nil_append]; apply hK; clear hK K) | (refine phiU_pureK rfl rfl (fun K hK => ?_); apply Exists.intro; constructor; (focus (rintro w' ⟨g1, g2, g7, g8⟩; have k1 := (g1.cell 1).trans rfl; clear g1 g2 g7 g8; first | (go_simp; done) | (go_simp; (try go_bits); (try go_simp); rfl) | go_simp)); simp only [Act.put, List.setIfInBounds_toArray, List.set_cons_succ, List.set_cons_zero, List.cons_append, List.nil_append]; apply hK; clear hK K))
        refine phiU_done ?_
        rintro w9 ⟨g1, g2, g7, g8⟩ hf
        have h10 := hf (10, fun w1 => (PApR w6.heap.size 2 91 (j + 1) (acells bts ++ ([.string (bs nn), .string (bs x2)] : List Value))).fact w1 (.slice p8 (j + 1) c8)) (by simp) rfl
        have ho9 : w9.ownsRow w6.heap.size 91 2 (.slice p8 (j + 1) c8) (j + 1) (acells bts ++ [.string (bs nn), .string (bs x2)]) := h10
        have f1 := g1.frozen 1
        have k1 := (g1.cell 1).trans rfl
        have O9 := ((Only.refl (w.heap.size + 1 + 1) w9).set_ 1 (.slice p8 (j + 1) c8))
        have R3 := Lib.hid (show Blk (w9.setCell ⟨(w.heap.size + 1 + 1), 1, none⟩ (.slice p8 (j + 1) c8)) (w.heap.size + 1 + 1) 50 #[.string (bs M0), .slice p8 (j + 1) c8, .slice none 0 0, .string (bs tx)] from g1.set_ 1 _)
        have R4 := Lib.hid (g7.onlyK O9)
        have R5 := Lib.hid (show (w9.setCell ⟨(w.heap.size + 1 + 1), 1, none⟩ (.slice p8 (j + 1) c8)).ownsRow w6.heap.size 91 2 (.slice p8 (j + 1) c8) (j + 1) (acells (bts ++ [[nn, x2]])) from by rw [acells_snoc]; exact O9.owns2 ho9 h6lt)
        clear hf g1 g2 g7 g8 O9 ho9 h10 HVL HAT
        go_wp2_with fail
        go_roundw
        case rel => exact ⟨j + 1, bts ++ [[nn, x2]], p8, c8, by omega, by go_num, HST2.out, R5.out, R3.out, R4.out⟩
        case measure => simp [intOf]; omega
      · obtain rfl : j = ax.length := by omega
        rw [List.take_of_length_le (Nat.le_refl _)] at hat
        have HR4 : RowKit.Hid (((Tr.wriL l kx).map fun xs => Tr.node [M0] bts xs tx) = R) := Lib.hid (by rw [← HR3.out, hat]; rfl)
        have hbl : bts.length = ax.length := (wriAts_len hat).1
        obtain ⟨w9, rfl⟩ : ∃ w9, w9 = wr := ⟨_, rfl⟩
        have hk9 := hkx.size
        have hlim : w.heap.size ≤ w6.heap.size := HB6.out.size
        have HW9 := Lib.hid hbw
        have hbx9 := hkx.blkK HX6.out (by omega)
        have HBR9 := Lib.hid (hkx.blkK HR6.out (by omega))
        have HOW9 := Lib.hid hown
        have HBO9 := Lib.hid hbo
        have e2' := (hbx9.cell 3).trans rfl
        have h69 := hbo.lt
        clear hat hkx hbx9 hown hbo hbw HR3
        go_wp2_with fail
        go_loopw [89] (fun i wr => ∃ (j : Nat) (pv : Option Addr) (cv : Nat) (ys : List Tr) (dss : List (List Value)), j ≤ kx.length ∧ i = .int .i64 j ∧ Tr.wriL l (kx.take j) = some ys ∧ wr.ownsRow w9.heap.size 50 4 (.slice pv j cv) j dss.flatten ∧ TrL wr (Bt w9.heap.size wr.heap.size (Value.slice pv j cv).ownBlock) ys dss ∧ wr.ownsRow w6.heap.size 91 2 (.slice po ax.length co) ax.length (acells bts) ∧ Blk wr (w.heap.size + 1 + 1) 50 #[.string (bs M0), .slice po ax.length co, .slice pv j cv, .string (bs tx)] ∧ Kx (w.heap.size + 1 + 1) w9 wr) (fun i _ => kx.length - (intOf i).toNat)
        case atStart => exact ⟨0, none, 0, [], [], by omega, rfl, wriL_nil _, World.ownsRow_nil _ _ _ _, (by unfold TrL; rfl), HOW9.out, HBO9.out, Kx.refl _ _⟩
        case round =>
          obtain ⟨j, pv, cv, ys, dss, hj, rfl, hrl, hrow, hkids, hown, hbo, hkx⟩ := hrel
          clear e2'
          have hbw := hkx.under HW9.out (by omega) (by omega)
          by_cases hlt : j < kx.length
          · obtain ⟨e1, o1, m0, m1, u1, u2, u3, u4, u5, u6, u7, rfl, hgx, hT1, hk0, hk1, hk2, hk3, hk4⟩ := kid_2 HK.out HL.out HX3.out hlt
            have hk0 := Below.keeps hbw _ _ hk0
            have hk1 := Below.keeps hbw _ _ hk1
            have hk2 := Below.keeps hbw _ _ hk2
            have hk3 := Below.keeps hbw _ _ hk3
            have hk4 := Below.keeps hbw _ _ hk4
            have hlt' : (j : Int) < (kx.length : Int) := by omega
            have HST := Lib.hid (wriL_step hlt hrl)
            have HRL := Lib.hid hrl
            have hbK := below_alloc1 wr (.cells #[.string (bs m0), .string (bs m1), .slice u4 u1.length u5, .slice u6 u2.length u7, .string (bs u3)] 44)
            have hbwK := hbw.alloc hbw.size (.cells #[.string (bs m0), .string (bs m1), .slice u4 u1.length u5, .slice u6 u2.length u7, .string (bs u3)] 44)
            have HIC := Lib.hid (HIH.out kx[j] P _ (wr.alloc (.cells #[.string (bs m0), .string (bs m1), .slice u4 u1.length u5, .slice u6 u2.length u7, .string (bs u3)] 44)) (HKS.out j hlt) (okL_get 2 kx HX3.out j hlt) (shrL_get kx HS4.out j hlt) (fewL_get kx HF3.out j hlt) (hT1.below hbwK) (HRD.out.keep (Below.keeps hbwK)))
            have hnm := fun y (h : kx[j].wri l = some y) => wri_nm h
            generalize kx[j].wri l = O at *
            have HNM2 := Lib.hid hnm
            have hNK := Blk.new wr 44 #[.string (bs m0), .string (bs m1), .slice u4 u1.length u5, .slice u6 u2.length u7, .string (bs u3)]
            have c0 := (hNK.cell 0).trans rfl
            have c1 := (hNK.cell 1).trans rfl
            have c2 := (hNK.cell 2).trans rfl
            have c3 := (hNK.cell 3).trans rfl
            have c4 := (hNK.cell 4).trans rfl
            have HVL := Lib.hid (fun g hg => hrow.lt g hg)
            have G5 := Lib.hid (owns_below hown hbK)
            have G6 := Lib.hid (owns_below hrow hbK)
            have G7 := Lib.hid (hkids.below hbK)
            have GB := Lib.hid (hbo.alloc (.cells #[.string (bs m0), .string (bs m1), .slice u4 u1.length u5, .slice u6 u2.length u7, .string (bs u3)] 44))
            have GK := Lib.hid (hkx.belowK hbK)
            have hszr := hkx.size
            have hrs : wr.heap.size + 1 = (wr.alloc (.cells #[.string (bs m0), .string (bs m1), .slice u4 u1.length u5, .slice u6 u2.length u7, .string (bs u3)] 44)).heap.size := by rw [World.size_alloc]
            have HRS := Lib.hid hrs
            clear hgx hT1 hnm hNK hbK hrow hkids hown hbo hkx hbw hrl hrs hbwK
            cases O with
            | none =>
              have HR0 : RowKit.Hid (R = none) := Lib.hid (by
                have h := HST.out
                rw [← HR4.out, wriL_bad h]
                rfl)
              have HIC2 : RowKit.Hid (Calls Tryz.prog 50 #[.agg #[.string (bs m0), .string (bs m1), .slice u4 u1.length u5, .slice u6 u2.length u7, .string (bs u3)], .slice pl l.length cl] (wr.alloc (.cells #[.string (bs m0), .string (bs m1), .slice u4 u1.length u5, .slice u6 u2.length u7, .string (bs u3)] 44)) fun e w' => ∃ f0 f1 f2 f3, e = .returned (.tuple #[.agg #[f0, f1, f2, f3], .bool false]) ∧ (f0.oneCell' = true ∧ f1.oneCell' = true ∧ f2.oneCell' = true ∧ f3.oneCell' = true) ∧ Below (wr.alloc (.cells #[.string (bs m0), .string (bs m1), .slice u4 u1.length u5, .slice u6 u2.length u7, .string (bs u3)] 44)).heap.size (wr.alloc (.cells #[.string (bs m0), .string (bs m1), .slice u4 u1.length u5, .slice u6 u2.length u7, .string (bs u3)] 44)) w') := Lib.hid (HIC.out.mono fun e w' h => h.2.elim (fun ⟨y, cs, h1, _⟩ => by cases h1) fun ⟨_, f0, f1, f2, f3, h2, h3⟩ => ⟨f0, f1, f2, f3, h2, h3, h.1⟩)
              clear HIC
              go_wp2_with (first | (go_at_call 50; refine HIC2.out.mono ?_; clear HIC2; rintro e w5 ⟨f0, f1, f2, f3, rfl, ⟨g0, g1, g2, g3⟩, hb5⟩; have HN5 := Lib.hid (Blk.new w5 50 #[.string ⟨#[]⟩, .slice none 0 0, .slice none 0 0, .string ⟨#[]⟩])) | (with_reducible refine at_sto 11 97 ?_; refine wpList_store (.tmp 11) (.tmp 97) 50 rfl rfl w5.heap.size 0 _ _ #[f0, f1, f2, f3] rfl rfl HN5.out (by kernel_rfl) (by simp; exact ⟨g0, g1, g2, g3⟩) (by simp) ?_))
              intro w7 hb6 ho6
              have hbb := hb5.trans ((below_alloc1 w5 (.cells #[.string ⟨#[]⟩, .slice none 0 0, .slice none 0 0, .string ⟨#[]⟩] 50)).mono hb5.size)
              have hs5 := hb5.size
              have hgb := GB.out.lt
              have HBO6 := Lib.hid (ho6.blk (GB.out.below hbb GB.out.lt) (by omega))
              have HK6 := Lib.hid ((GK.out.belowK hbb).onlyN ho6 (by have := GK.out.size; omega))
              have HBR6 := Lib.hid (HK6.out.blkK HBR9.out (by omega))
              have HBB6 := Lib.hid (HK6.out.under HW9.out (by omega) (by omega))
              have r0 := (HBO6.out.cell 0).trans rfl
              have r1 := (HBO6.out.cell 1).trans rfl
              have r2 := (HBO6.out.cell 2).trans rfl
              have r3 := (HBO6.out.cell 3).trans rfl
              clear hb6 ho6 hbb hb5 c0 c1 c2 c3 c4 hk0 hk1 hk2 hk3 hk4
              go_wp2_with (first | fail | (with_reducible refine at_sto 4 101 ?_; refine wpList_store (.tmp 4) (.tmp 101) 50 rfl rfl (w.heap.size + 1) 0 _ _ #[.string (bs M0), .slice po ax.length co, .slice pv j cv, .string (bs tx)] rfl rfl HBR6.out (by kernel_rfl) (by simp [Value.oneCell']) (by simp) ?_))
              intro w8 hb8 ho8
              have hb8 : Blk w8 (w.heap.size + 1) 50 #[.string (bs M0), .slice po ax.length co, .slice pv j cv, .string (bs tx)] := hb8
              have z0 := (hb8.cell 0).trans rfl
              have z1 := (hb8.cell 1).trans rfl
              have z2 := (hb8.cell 2).trans rfl
              have z3 := (hb8.cell 3).trans rfl
              have HBW := Lib.hid (HBB6.out.trans (ho8.below (by omega : w.heap.size ≤ w.heap.size + 1)))
              clear hb8 ho8
              go_wp2_with fail
              refine bodyPost_ret (v := .tuple #[.agg #[.string (bs M0), .slice po ax.length co, .slice pv j cv, .string (bs tx)], .bool false]) (by simp [results, Tryz.results50, go_sem, z0, z1, z2, z3]) rfl ?_
              exact ⟨HBW.out, .inr ⟨HR0.out, _, _, _, _, rfl, by simp [Value.oneCell']⟩⟩
            | some X =>
              have HIC2 : RowKit.Hid (Calls Tryz.prog 50 #[.agg #[.string (bs m0), .string (bs m1), .slice u4 u1.length u5, .slice u6 u2.length u7, .string (bs u3)], .slice pl l.length cl] (wr.alloc (.cells #[.string (bs m0), .string (bs m1), .slice u4 u1.length u5, .slice u6 u2.length u7, .string (bs u3)] 44)) fun e w' => ∃ f0 f1 f2 f3, e = .returned (.tuple #[.agg #[f0, f1, f2, f3], .bool true]) ∧ TrC w' (Bt (wr.heap.size + 1) w'.heap.size none) X [f0, f1, f2, f3] ∧ Below (wr.alloc (.cells #[.string (bs m0), .string (bs m1), .slice u4 u1.length u5, .slice u6 u2.length u7, .string (bs u3)] 44)).heap.size (wr.alloc (.cells #[.string (bs m0), .string (bs m1), .slice u4 u1.length u5, .slice u6 u2.length u7, .string (bs u3)] 44)) w') := Lib.hid (HIC.out.mono fun e w' h => h.2.elim (fun ⟨y, cs, h1, h2, h3⟩ => by
                cases h1
                obtain ⟨f0, f1, f2, f3, rfl⟩ := four_of (l := cs) (by rw [h3.len, HNM2.out X rfl])
                rw [← HRS.out] at h3
                exact ⟨f0, f1, f2, f3, h2, h3, h.1⟩) fun h2 => by cases h2.1)
              clear HIC
              go_wp2_with (first | (go_at_call 50; refine HIC2.out.mono ?_; clear HIC2; rintro e w5 ⟨f0, f1, f2, f3, rfl, hT5, hb5⟩; have HN5 := Lib.hid (Blk.new w5 50 #[.string ⟨#[]⟩, .slice none 0 0, .slice none 0 0, .string ⟨#[]⟩])) | (with_reducible refine at_sto 11 97 ?_; refine wpList_store (.tmp 11) (.tmp 97) 50 rfl rfl w5.heap.size 0 _ _ #[f0, f1, f2, f3] rfl rfl HN5.out (by kernel_rfl) (by simp; exact ⟨hT5.one _ (by simp), hT5.one _ (by simp), hT5.one _ (by simp), hT5.one _ (by simp)⟩) (by simp) ?_))
              intro w7 hb6 ho6
              have hb6 : Blk w7 w5.heap.size 50 #[f0, f1, f2, f3] := hb6
              have hbb := hb5.trans ((below_alloc1 w5 (.cells #[.string ⟨#[]⟩, .slice none 0 0, .slice none 0 0, .string ⟨#[]⟩] 50)).mono hb5.size)
              have hs5 := hb5.size
              have hs6 : w7.heap.size = w5.heap.size + 1 := by rw [ho6.size, World.size_alloc]
              have hgb := GB.out.lt
              have hgk := GK.out.size
              have hrs := HRS.out
              have hbo6 := ho6.blk (GB.out.below hbb GB.out.lt) (by omega)
              have hone := hT5.one
              have g0 := hone f0 (by simp)
              have g1 := hone f1 (by simp)
              have g2 := hone f2 (by simp)
              have g3 := hone f3 (by simp)
              have HBO6 := Lib.hid hbo6
              have HK6 := Lib.hid ((GK.out.belowK hbb).onlyN ho6 (by omega))
              have HOW6 := Lib.hid (owns_only ho6 (owns_below G5.out hbb) (fun b hb => by have := (G5.out.lt b hb).2; omega))
              have HRW6 := Lib.hid (owns_only ho6 (owns_below G6.out hbb) (fun b hb => by have := (HVL.out b hb).2; omega))
              have HTL6 := Lib.hid ((G7.out.below hbb).only ho6 (fun b hb => by have := hb.2.1; omega))
              have HTC6 := Lib.hid ((hT5.below (below_alloc1 w5 (.cells #[.string ⟨#[]⟩, .slice none 0 0, .slice none 0 0, .string ⟨#[]⟩] 50))).only ho6 (fun b hb => by have := hb.2.1; omega))
              have y0 := (hb6.cell 0).trans rfl
              have y1 := (hb6.cell 1).trans rfl
              have y2 := (hb6.cell 2).trans rfl
              have y3 := (hb6.cell 3).trans rfl
              have s0 := (hbo6.cell 2).trans rfl
              clear hb6 ho6 hbb hb5 c0 c1 c2 c3 c4 hk0 hk1 hk2 hk3 hk4 hbo6 hone hT5
              obtain ⟨i0, hi0, hy0, hy1, hy2⟩ := info_parts elem23_info
              go_wp2_with (at_builtin; refine wpList_appAt (.tmp 103) (.tmp 105) 48 rfl rfl w9.heap.size 50 i0 (.agg #[.string ⟨#[]⟩, .slice none 0 0, .slice none 0 0, .string ⟨#[]⟩]) 4 80 Tryz.underlying48 hi0 hy0 hy1 hy2 rfl (by decide) _ _ _ rfl (owns_below HRW6.out (below_alloc1 _ _)) _ _ _ [f0, f1, f2, f3] rfl rfl (rd_at _ #[_, _, _, _] _ _ _ hs6.symm) (by simp; exact ⟨g0, g1, g2, g3⟩) (by unfold maxLen; omega) (by omega) (by simp; omega) ?_)
              intro v7 w8 ho7 hg7 hat7
              obtain ⟨p7, c7, rfl, _, _, _⟩ := owns_rd ho7
              have hbX := below_alloc1 w7 (.cells #[f0, f1, f2, f3] 50)
              have hbo7 := grown_blk2 hg7 (HBO6.out.alloc (.cells #[f0, f1, f2, f3] 50)) (fun e => by have := (HVL.out _ e).1; omega)
              have hpr := prow_step (n := j + 1) hg7 (by rw [World.size_alloc, hs6]; exact hat7) (fun g hg => (HVL.out g hg).2) (by omega) (by simp; omega) (HTL6.out.below hbX) (HTC6.out.below hbX) (by simp; omega) (by rw [flat_snoc]; exact ho7)
              obtain ⟨cs7, hr7, ht7⟩ := hpr
              have f1' := hbo7.frozen 2
              have k1 := (hbo7.cell 2).trans rfl
              have HK7 := Lib.hid ((HK6.out.belowK hbX).grownN hg7 (fun b hb => (HVL.out b hb).1))
              have HO7 := Lib.hid (grown_owns hg7 (owns_below HRW6.out hbX) (owns_below HOW6.out hbX) (by decide))
              have HB7 := Lib.hid hbo7
              have HR7 := Lib.hid hr7
              have HT7 := Lib.hid ht7
              clear hbo7 ho7 hg7 hat7 hr7 ht7 hbX s0 y0 y1 y2 y3
              go_wp2_with fail
              go_roundw
              case rel => exact ⟨j + 1, p7, c7, ys ++ [X], dss ++ [cs7], by omega, by go_num, HST.out, ((Only.refl (w.heap.size + 1 + 1) w8).set_ 2 _).owns2 HR7.out (by omega), (by
                have h := HT7.out.only ((Only.refl (w.heap.size + 1 + 1) w8).set_ 2 (.slice p7 (j + 1) c7)) (fun b hb => by have := hb.1; omega)
                rw [show w8.heap.size = (w8.setCell ⟨(w.heap.size + 1 + 1), 2, none⟩ (.slice p7 (j + 1) c7)).heap.size from ((Only.refl (w.heap.size + 1 + 1) w8).set_ 2 _).size.symm] at h
                exact h), ((Only.refl (w.heap.size + 1 + 1) w8).set_ 2 _).owns2 HO7.out h6lt, HB7.out.set_ 2 _, HK7.out.onlyK ((Only.refl (w.heap.size + 1 + 1) w8).set_ 2 _)⟩
              case measure => simp [intOf]; omega
          · obtain rfl : j = kx.length := by omega
            rw [List.take_of_length_le (Nat.le_refl _)] at hrl
            have HR0 : RowKit.Hid (R = some (.node [M0] bts ys tx)) := Lib.hid (by rw [← HR4.out, hrl]; rfl)
            have hyl := wriL_len hrl
            obtain ⟨pA, cA, heA, yy1, yy2, yy3, yy4⟩ := owns_rdP hown
            cases heA
            obtain ⟨pV, cV, heV, zz1, zz2, zz3, zz4⟩ := owns_rdP hrow
            cases heV
            have hkr := hkx.size
            have r0 := (hbo.cell 0).trans rfl
            have r1 := (hbo.cell 1).trans rfl
            have r2 := (hbo.cell 2).trans rfl
            have r3 := (hbo.cell 3).trans rfl
            have HBRF := Lib.hid (hkx.blkK HBR9.out (by omega))
            have HFIN := Lib.hid (show ∀ w', Only (w.heap.size + 1) wr w' → TrC w' (Bt w.heap.size w'.heap.size none) (.node [M0] bts ys tx) [.string (bs M0), .slice po ax.length co, .slice pv kx.length cv, .string (bs tx)] from fun w' k => by
              have e := k.size
              have q1 : Rd w' po (acells bts) := yy3.keepP (P := fun b => w6.heap.size ≤ b) (fun a ha => (yy4 a ha).1) fun a v hp hc => (World.cell?_of_block (k.block a.block (by omega))).trans hc
              have q2 : Rd w' pv dss.flatten := zz3.keepP (P := fun b => w9.heap.size ≤ b) (fun a ha => (zz4 a ha).1) fun a v hp hc => (World.cell?_of_block (k.block a.block (by omega))).trans hc
              unfold TrC
              rw [hyl, hbl]
              exact ⟨po, co, pv, cv, dss, rfl, ⟨yy1, yy2, q1, fun a ha => ⟨by have := (yy4 a ha).1; omega, by rw [e]; exact (yy4 a ha).2, by simp⟩⟩, ⟨zz1, zz2, q2, fun a ha => ⟨by have := (zz4 a ha).1; omega, by rw [e]; exact (zz4 a ha).2, by simp⟩⟩,
                (hkids.only k (fun b hb => by have := hb.1; omega)).imp fun b hb => ⟨by have := hb.1; omega, by rw [e]; exact hb.2.1, by simp⟩⟩)
            have HBW := Lib.hid hbw
            clear hbo hown hrow hkids hbw hkx hrl yy1 yy2 yy3 yy4 zz1 zz2 zz3 zz4
            go_wp2_with (with_reducible refine at_sto 4 109 ?_; refine wpList_store (.tmp 4) (.tmp 109) 50 rfl rfl (w.heap.size + 1) 0 _ _ #[.string (bs M0), .slice po ax.length co, .slice pv kx.length cv, .string (bs tx)] rfl rfl HBRF.out (by kernel_rfl) (by simp [Value.oneCell']) (by simp) ?_)
            intro w8 hb8 ho8
            have hb8 : Blk w8 (w.heap.size + 1) 50 #[.string (bs M0), .slice po ax.length co, .slice pv kx.length cv, .string (bs tx)] := hb8
            have z0 := (hb8.cell 0).trans rfl
            have z1 := (hb8.cell 1).trans rfl
            have z2 := (hb8.cell 2).trans rfl
            have z3 := (hb8.cell 3).trans rfl
            have HO8 := Lib.hid ho8
            clear r0 r1 r2 r3 hb8 ho8
            go_wp2_with fail
            refine bodyPost_ret (v := .tuple #[.agg #[.string (bs M0), .slice po ax.length co, .slice pv kx.length cv, .string (bs tx)], .bool true]) (by simp [results, Tryz.results50, go_sem, z0, z1, z2, z3]) rfl ?_
            exact ⟨HBW.out.trans (Only.below HO8.out (by omega)), .inl ⟨_, [.string (bs M0), .slice po ax.length co, .slice pv kx.length cv, .string (bs tx)], HR0.out, rfl, HFIN.out w8 HO8.out⟩⟩
end Go.Proofs.YtkghpmpmcafhkaaGreatDoor
