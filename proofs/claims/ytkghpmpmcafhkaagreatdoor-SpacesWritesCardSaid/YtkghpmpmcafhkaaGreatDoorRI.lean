/- RefYD -/
import Derived.Test.YtkghpmpmcafhkaaGreatDoorRG
import Derived.Test.YtkghpmpmcafhkaaGreatDoorPN
import Derived.Test.YtkghpmpmcafhkaaGreatDoorBA
import Derived.Test.YtkghpmpmcafhkaaGreatDoorProg
import Derived.Lib.ItoaNum
import Derived.IntWalk
namespace Go.Proofs.YtkghpmpmcafhkaaGreatDoor
set_option maxHeartbeats 8000000
set_option maxRecDepth 20000
open Go.RowKit
attribute [local go_sem] bs_toList
def GrO (w w' : World) (v v' : Value) : Prop := w.grownBy w' v.ownBlock ∧ (v'.ownBlock = v.ownBlock ∨ ∀ b, v'.ownBlock = some b → w.heap.size ≤ b)
section
variable {a b c : World} {v v1 v2 : Value}
theorem GrO.refl (a : World) (v : Value) : GrO a a v v := ⟨⟨rfl, rfl, rfl, Nat.le_refl _, fun _ _ _ => rfl⟩, .inl rfl⟩
theorem GrO.trans (h : GrO a b v v1) (k : GrO b c v1 v2) : GrO a c v v2 := by
  refine ⟨⟨k.1.os.trans h.1.os, k.1.tape.trans h.1.tape, k.1.output.trans h.1.output, Nat.le_trans h.1.size k.1.size, fun i hi hn => ?_⟩, ?_⟩
  · refine (k.1.block i (Nat.lt_of_lt_of_le hi h.1.size) fun e => ?_).trans (h.1.block i hi hn)
    rcases h.2 with h2 | h2
    · exact hn (by rw [e, h2])
    · have := h2 i e.symm; omega
  · rcases k.2 with k2 | k2
    · rw [k2]
      exact h.2
    · exact .inr fun x hx => Nat.le_trans h.1.size (k2 x hx)
theorem GrO.of_below (h : Below a.heap.size a b) (v : Value) : GrO a b v v := ⟨⟨h.os, h.tape, h.output, h.size, fun i hi _ => h.block i hi⟩, .inl rfl⟩
theorem GrO.cellG (h : GrO a b v v1) {x : Addr} {u : Value} (hc : a.cell? x = some u) (hn : v.ownBlock ≠ some x.block) : b.cell? x = some u :=
  (World.cell?_of_block (h.1.block x.block (cell_lt hc) (Ne.symm hn))).trans hc
theorem GrO.blkG (h : GrO a b v v1) {g : Nat} {t : TypeId} {cs : Array Value} (hb : Blk a g t cs) (hn : v.ownBlock ≠ some g) : Blk b g t cs := (h.1.block g hb.lt (Ne.symm hn)).trans hb
theorem GrO.trG (h : GrO a b v v1) {P : Nat → Prop} {x : Tr} {cs : List Value} (ht : TrC a P x cs) (hP : ∀ i, P i → v.ownBlock ≠ some i) : TrC b P x cs :=
  ht.keepP fun q u hp hc => h.cellG hc (hP _ hp)
theorem GrO.own' (h : GrO a b v v1) {P : Nat → Prop} (hP : ∀ i, P i → i < a.heap.size ∧ v.ownBlock ≠ some i) : ∀ i, P i → i < b.heap.size ∧ v1.ownBlock ≠ some i := fun i hi =>
  ⟨Nat.lt_of_lt_of_le (hP i hi).1 h.1.size, by
    rcases h.2 with h2 | h2
    · rw [h2]; exact (hP i hi).2
    · intro e; have := h2 i e; have := (hP i hi).1; omega⟩
end
theorem add_len (l : List (List UInt8)) (s : List UInt8) : (addF l s).length ≤ l.length + 1 := by
  unfold addF
  split
  · omega
  · simp
theorem fold_len : ∀ (ats : List (List (List UInt8))) (l : List (List UInt8)), (ats.foldl (fun l a => addF l (a.getD 0 [])) l).length ≤ l.length + ats.length
  | [], l => Nat.le_refl _
  | a :: ats, l => by
    have h := fold_len ats (addF l (a.getD 0 []))
    have h2 := add_len l (a.getD 0 [])
    simp only [List.foldl_cons, List.length_cons]
    omega
mutual
theorem meet_len : ∀ (x : Tr) (l : List (List UInt8)), (x.meet l).length ≤ l.length + x.nms.length
  | .node nm ats ks _, l => by
    have h1 := meetL_len ks (ats.foldl (fun l a => addF l (a.getD 0 [])) (addF l (nm.getD 0 [])))
    have h2 := fold_len ats (addF l (nm.getD 0 []))
    have h3 := add_len l (nm.getD 0 [])
    unfold Tr.meet Tr.nms
    simp only [List.length_cons, List.length_append, List.length_map]
    omega
theorem meetL_len : ∀ (xs : List Tr) (l : List (List UInt8)), (Tr.meetL l xs).length ≤ l.length + (Tr.nmsL xs).length
  | [], l => by unfold Tr.meetL Tr.nmsL; simp
  | x :: xs, l => by
    have h1 := meetL_len xs (x.meet l)
    have h2 := meet_len x l
    unfold Tr.meetL Tr.nmsL
    simp only [List.length_append]
    omega
end
theorem str_info : (Tryz.prog.info? 9).map (fun i => (i.zero, i.size, i.bytes)) = some (some (.string ⟨#[]⟩), 1, 16) := by kernel_rfl
theorem str_1 {w : World} {p : Option Addr} {l : List (List UInt8)} (h : Rd w p (strs l)) {i : Nat} (hi : i < l.length) : ∃ b off, p = some ⟨b, off, none⟩ ∧ w.cell? ⟨b, off + i, none⟩ = some (.string (bs l[i])) := by
  rcases h with h | ⟨b, off, hp, hc⟩
  · have := congrArg List.length h
    rw [strs_len, List.length_nil] at this
    omega
  · exact ⟨b, off, hp, hc i _ (by unfold strs; rw [List.getElem?_map, List.getElem?_eq_getElem hi]; rfl)⟩
theorem radd_any (base : Nat) (l : List (List UInt8)) (v : Value) (s : List UInt8) (w : World) (ho : w.ownsRow base 9 1 v l.length (strs l)) (hb : base ≤ w.heap.size) (hl : l.length ≤ 1000000) :
    Calls Tryz.prog 92 #[v, .string (bs s)] w fun e w' => ∃ p' c', e = .returned (.slice p' (addF l s).length c') ∧ w'.ownsRow base 9 1 (.slice p' (addF l s).length c') (addF l s).length (strs (addF l s)) ∧ GrO w w' v (.slice p' (addF l s).length c') := by
  obtain ⟨p, cp, rfl, h1, h2, h3⟩ := owns_rd ho
  have HRD := Lib.hid h3
  have HO := Lib.hid ho
  unfold maxLen at h2
  obtain ⟨O, hO⟩ : ∃ O, addF l s = O := ⟨_, rfl⟩
  rw [hO]
  unfold addF at hO
  have HX := Lib.hid hO
  clear hO h3 ho
  go_enter Tryz.func92, Tryz.ntmps92
  go_wp2_with fail
  go_loop [6, 9] (fun _ i => ∃ k : Nat, k ≤ l.length ∧ i = .int .i64 k ∧ s ∉ l.take k) (fun _ i => l.length - (intOf i).toNat)
  case atStart => exact ⟨0, by omega, rfl, by simp⟩
  case round =>
    obtain ⟨k, hk, rfl, hno⟩ := hrel
    by_cases hlt : k < l.length
    · obtain ⟨e1, o1, rfl, hc⟩ := str_1 HRD.out hlt
      have hlt' : (k : Int) < (l.length : Int) := by omega
      have hmem := List.getElem_mem hlt
      have htk := List.take_succ_eq_append_getElem hlt
      obtain ⟨d, hd⟩ : ∃ d, l[k] = d := ⟨_, rfl⟩
      rw [hd] at hc hmem htk
      have HTK := Lib.hid htk
      have HNO := Lib.hid hno
      clear htk hno hd
      cases hE : (d == s)
      · go_wp2_with fail
        go_round
        case rel => exact ⟨k + 1, by omega, by go_num, by
          rw [HTK.out]
          intro h
          rcases List.mem_append.1 h with h | h
          · exact HNO.out h
          · rw [List.mem_singleton.1 h] at hE; simp at hE⟩
        case measure => simp [intOf]; omega
      · obtain rfl : d = s := by simpa using hE
        obtain rfl : O = l := by rw [← HX.out, if_pos (.inl (List.contains_iff_mem.2 hmem))]
        clear HX
        go_wp2_with fail
        go_ret
        exact ⟨_, _, rfl, HO.out, GrO.refl _ _⟩
    · obtain rfl : k = l.length := by omega
      rw [List.take_of_length_le (Nat.le_refl _)] at hno
      have hct : l.contains s = false := by rw [Bool.eq_false_iff]; exact fun h => hno (List.contains_iff_mem.1 h)
      obtain ⟨se, hse⟩ : ∃ se, (s == []) = se := ⟨_, rfl⟩
      have hs0 : s.isEmpty = se := by rw [← hse]; cases s <;> rfl
      have hs1 : (bs s).toList.isEmpty = se := by rw [← hse]; exact isE_bs s
      cases se
      · have hne : ¬ (l.contains s = true ∨ s = []) := by rintro (h | h); rw [hct] at h; cases h; rw [h] at hse; cases hse
        obtain rfl : O = l ++ [s] := by rw [← HX.out, if_neg hne]
        obtain ⟨i0, hi0, hy0, hy1, hy2⟩ := info_parts str_info
        clear HX hne hct hno hse
        go_wp2_with (at_builtin; refine wpList_appAt (.tmp 21) (.tmp 23) 81 rfl rfl base 9 i0 (.string ⟨#[]⟩) 1 16 Tryz.underlying81 hi0 hy0 hy1 hy2 rfl (by decide) _ _ _ rfl (owns_below HO.out (below_alloc1 _ _)) _ _ _ [.string (bs s)] rfl rfl (rd_at _ #[_] _ _ _ rfl) (by simp [Value.oneCell']) (by unfold maxLen; omega) (by omega) (by simp; omega) ?_)
        intro v2 w2 ho2 hg2 hat2
        obtain ⟨p2, c2, rfl, _, _, _⟩ := owns_rd ho2
        have HO2 := Lib.hid ho2
        have HG2 := Lib.hid (show GrO w w2 (.slice p l.length cp) (.slice p2 (l.length + 1) c2) from by
          refine (GrO.of_below (below_alloc1 w _) _).trans ⟨hg2, hat2.imp id fun h b hb => ?_⟩
          rw [h] at hb
          cases hb
          rw [World.size_alloc]
          exact Nat.le_refl _)
        clear ho2 hg2 hat2
        go_wp2_with fail
        go_ret
        rw [show (l ++ [s]).length = l.length + 1 from by simp]
        refine ⟨_, _, rfl, ?_, HG2.out⟩
        have h := HO2.out
        unfold strs at h ⊢
        rw [List.map_append]
        exact h
      · obtain rfl : s = [] := by simpa using hse
        obtain rfl : O = l := by rw [← HX.out, if_pos (.inr rfl)]
        clear HX
        go_wp2_with fail
        go_ret
        exact ⟨_, _, rfl, HO.out, GrO.refl _ _⟩
theorem nmsL_app : ∀ xs ys : List Tr, Tr.nmsL (xs ++ ys) = Tr.nmsL xs ++ Tr.nmsL ys
  | [], ys => by rw [List.nil_append, Tr.nmsL, List.nil_append]
  | x :: xs, ys => by rw [List.cons_append, Tr.nmsL, Tr.nmsL, nmsL_app xs ys, List.append_assoc]
theorem meetL_snoc : ∀ (xs : List Tr) (y : Tr) (l : List (List UInt8)), Tr.meetL l (xs ++ [y]) = y.meet (Tr.meetL l xs)
  | [], y, l => by rw [List.nil_append, Tr.meetL, Tr.meetL, Tr.meetL]
  | x :: xs, y, l => by rw [List.cons_append, Tr.meetL, meetL_snoc xs y, Tr.meetL]
theorem meetL_take {ks : List Tr} {j : Nat} (h : j < ks.length) (l : List (List UInt8)) : Tr.meetL l (ks.take (j + 1)) = ks[j].meet (Tr.meetL l (ks.take j)) := by
  rw [List.take_succ_eq_append_getElem h, meetL_snoc]
theorem rmeet_any (base : Nat) : ∀ (n : Nat) (x : Tr) (P : Nat → Prop) (cx : List Value) (l : List (List UInt8)) (v : Value) (w : World), x.sz ≤ n → x.ok 2 → TrC w P x cx → w.ownsRow base 9 1 v l.length (strs l) → base ≤ w.heap.size → (∀ i, P i → i < w.heap.size ∧ v.ownBlock ≠ some i) → l.length + x.nms.length ≤ 1000000 →
    Calls Tryz.prog 49 #[.agg cx.toArray, v] w fun e w' => ∃ p' c', e = .returned (.slice p' (x.meet l).length c') ∧ w'.ownsRow base 9 1 (.slice p' (x.meet l).length c') (x.meet l).length (strs (x.meet l)) ∧ GrO w w' v (.slice p' (x.meet l).length c') := by
  intro n
  induction n with
  | zero => intro x P cx l v w hs; have := x.sz_pos; omega
  | succ n ih =>
    intro x P cx l v w hs hx hcx ho hb hP hlen
    obtain ⟨nx, ax, kx, tx⟩ := x
    unfold TrC at hcx
    unfold Tr.ok at hx
    obtain ⟨hx1, hx2, hx3⟩ := hx
    obtain ⟨a0, a1, rfl⟩ := two_of hx1
    obtain ⟨pa, ca, pk, ck, css, rfl, ⟨A1, A2, A3, A4⟩, ⟨K1, K2, K3, K4⟩, hL⟩ := hcx
    obtain ⟨p, cp, rfl, -, -, -⟩ := owns_rd ho
    show Calls Tryz.prog 49 #[.agg #[.string (bs a0), .string (bs a1), .slice pa ax.length ca, .slice pk kx.length ck, .string (bs tx)], .slice p l.length cp] w _
    have hB := below_alloc1 w (.cells #[.string (bs a0), .string (bs a1), .slice pa ax.length ca, .slice pk kx.length ck, .string (bs tx)] 44)
    have hN := Blk.new w 44 #[.string (bs a0), .string (bs a1), .slice pa ax.length ca, .slice pk kx.length ck, .string (bs tx)]
    have hvlt : ∀ b, (Value.slice p l.length cp).ownBlock = some b → b < w.heap.size := fun b hb => (ho.lt b hb).2
    have ho1 := owns_below ho hB
    have hln : l.length + (1 + ax.length + (Tr.nmsL kx).length) ≤ 1000000 := by
      unfold Tr.nms at hlen
      simp only [List.length_cons, List.length_append, List.length_map] at hlen
      omega
    have hs1 := World.size_alloc w (.cells #[.string (bs a0), .string (bs a1), .slice pa ax.length ca, .slice pk kx.length ck, .string (bs tx)] 44)
    have HAD := Lib.hid (radd_any base l (.slice p l.length cp) a0 _ ho1 (by rw [hs1]; omega) (by omega))
    have HP1 := Lib.hid ((GrO.of_below hB (.slice p l.length cp)).own' hP)
    have HB := Lib.hid hB
    have HN := Lib.hid hN
    have HA := Lib.hid (A3.below hB)
    have HK := Lib.hid (K3.below hB)
    have HA4 := Lib.hid A4
    have HK4 := Lib.hid K4
    have HL := Lib.hid (hL.below hB)
    have HX2 := Lib.hid hx2
    have HX3 := Lib.hid hx3
    have HIH := Lib.hid ih
    have HLN := Lib.hid hln
    have HVL := Lib.hid hvlt
    have hks : ∀ i (hi : i < kx.length), kx[i].sz ≤ n := fun i hi => by
      have := Tr.sz_kid (.node [a0, a1] ax kx tx) i hi
      have h2 : (Tr.node [a0, a1] ax kx tx).ks[i] = kx[i] := rfl
      rw [h2] at this
      omega
    have HKS := Lib.hid hks
    have HM := Lib.hid (show (Tr.node [a0, a1] ax kx tx).meet l = Tr.meetL (ax.foldl (fun l a => addF l (a.getD 0 [])) (addF l a0)) kx from by rw [Tr.meet]; rfl)
    obtain ⟨M, hM⟩ : ∃ M, (Tr.node [a0, a1] ax kx tx).meet l = M := ⟨_, rfl⟩
    rw [hM] at HM ⊢
    have c0 := (hN.cell 0).trans rfl
    have c2 := (hN.cell 2).trans rfl
    unfold maxLen at A2 K2
    have hbs : base ≤ w.heap.size := hb
    clear hM hln hlen hks ih hx2 hx3 A3 K3 A4 K4 hL hP ho ho1 hvlt hN hB hb
    go_enter Tryz.func49, Tryz.ntmps49
    go_wp2_with (go_at_call 92; refine HAD.out.mono ?_; clear HAD; rintro e w2 ⟨p2, c2', rfl, ho2, hg2⟩; have hbx2 := hg2.blkG HN.out (fun e => by have := HVL.out _ e; omega); have d2 := (hbx2.cell 2).trans rfl)
    have HO2 := Lib.hid ho2
    have HG2 := Lib.hid hg2
    have hl2 := add_len l a0
    clear c0 c2 hbx2 ho2 hg2
    go_loopw [1, 17] (fun lv i wr => ∃ (j : Nat) (l' : List (List UInt8)) (p' : Option Addr) (c' : Nat), j ≤ ax.length ∧ i = .int .i64 j ∧ lv = .slice p' l'.length c' ∧ l' = (ax.take j).foldl (fun l a => addF l (a.getD 0 [])) (addF l a0) ∧ l'.length ≤ l.length + 1 + j ∧ wr.ownsRow base 9 1 (.slice p' l'.length c') l'.length (strs l') ∧ GrO (w.alloc (.cells #[.string (bs a0), .string (bs a1), .slice pa ax.length ca, .slice pk kx.length ck, .string (bs tx)] 44)) wr (.slice p l.length cp) (.slice p' l'.length c')) (fun _ i _ => ax.length - (intOf i).toNat)
    case atStart => exact ⟨0, addF l a0, p2, c2', by omega, rfl, rfl, rfl, by omega, HO2.out, HG2.out⟩
    case round =>
      clear HO2 HG2 d2
      obtain ⟨j, l', p', c', hj, rfl, rfl, hl', hll, hown, hg⟩ := hrel
      by_cases hlt : j < ax.length
      · obtain ⟨e1, o1, x0, x1, x2, rfl, hgx, hx0, hx1, hx2⟩ := at_2 HA.out HX2.out hlt
        have hpe := (HP1.out e1 (HA4.out ⟨e1, o1, none⟩ rfl)).2
        have hx0 := hg.cellG hx0 hpe
        have hx1 := hg.cellG hx1 hpe
        have hx2 := hg.cellG hx2 hpe
        have hlt' : (j : Int) < (ax.length : Int) := by omega
        have hbA := below_alloc1 wr (.cells #[.string (bs x0), .string (bs x1), .string (bs x2)] 93)
        have hgs := hg.1.size
        have hsa := HB.out.size
        have hsA : wr.heap.size ≤ (wr.alloc (.cells #[.string (bs x0), .string (bs x1), .string (bs x2)] 93)).heap.size := hbA.size
        have HAD := Lib.hid (radd_any base l' (.slice p' l'.length c') x0 (wr.alloc (.cells #[.string (bs x0), .string (bs x1), .string (bs x2)] 93)) (owns_below hown hbA) (by omega) (by have := HLN.out; omega))
        have HG := Lib.hid (hg.trans (GrO.of_below hbA _))
        have hnx : (ax.take (j + 1)).foldl (fun l a => addF l (a.getD 0 [])) (addF l a0) = addF l' x0 := by
          rw [List.take_succ_eq_append_getElem hlt, List.foldl_append, ← hl', hgx]
          rfl
        have HNX := Lib.hid hnx
        have hal := add_len l' x0
        have hNA := Blk.new wr 93 #[.string (bs x0), .string (bs x1), .string (bs x2)]
        have c0 := (hNA.cell 0).trans rfl
        clear hgx hl' hown hg hbA hnx hNA hgs hsA
        go_wp2_with (go_at_call 92; refine HAD.out.mono ?_; clear HAD; rintro e w3 ⟨p3, c3, rfl, ho3, hg3⟩)
        go_roundw
        case rel => exact ⟨j + 1, addF l' x0, p3, c3, by omega, by go_num, rfl, HNX.out.symm, by omega, ho3, HG.out.trans hg3⟩
        case measure => simp [intOf]; omega
      · obtain rfl : j = ax.length := by omega
        rw [List.take_of_length_le (Nat.le_refl _)] at hl'
        have hbx := hg.blkG HN.out (fun e => by have := HVL.out _ e; omega)
        have d2 := (hbx.cell 3).trans rfl
        have HLL := Lib.hid (And.intro hl' hll)
        have HO2 := Lib.hid hown
        have HG2 := Lib.hid hg
        clear hl' hll hown hg hbx
        go_wp2_with fail
        clear d2
        go_loopw [1, 30] (fun lv i wr => ∃ (j : Nat) (l2 : List (List UInt8)) (p' : Option Addr) (c' : Nat), j ≤ kx.length ∧ i = .int .i64 j ∧ lv = .slice p' l2.length c' ∧ l2 = Tr.meetL l' (kx.take j) ∧ wr.ownsRow base 9 1 (.slice p' l2.length c') l2.length (strs l2) ∧ GrO (w.alloc (.cells #[.string (bs a0), .string (bs a1), .slice pa ax.length ca, .slice pk kx.length ck, .string (bs tx)] 44)) wr (.slice p l.length cp) (.slice p' l2.length c')) (fun _ i _ => kx.length - (intOf i).toNat)
        case atStart => exact ⟨0, l', _, _, by omega, rfl, rfl, by rw [List.take_zero, Tr.meetL], HO2.out, HG2.out⟩
        case round =>
          clear HO2 HG2
          obtain ⟨j, l2, p', c', hj, rfl, rfl, hl2, hown, hg⟩ := hrel
          by_cases hlt : j < kx.length
          · obtain ⟨e1, o1, m0, m1, u1, u2, u3, u4, u5, u6, u7, rfl, hgx, hT1, hk0, hk1, hk2, hk3, hk4⟩ := kid_2 HK.out HL.out HX3.out hlt
            have hpe := (HP1.out e1 (HK4.out ⟨e1, o1, none⟩ rfl)).2
            have hk0 := hg.cellG hk0 hpe
            have hk1 := hg.cellG hk1 hpe
            have hk2 := hg.cellG hk2 hpe
            have hk3 := hg.cellG hk3 hpe
            have hk4 := hg.cellG hk4 hpe
            have hlt' : (j : Int) < (kx.length : Int) := by omega
            have hbK := below_alloc1 wr (.cells #[.string (bs m0), .string (bs m1), .slice u4 u1.length u5, .slice u6 u2.length u7, .string (bs u3)] 44)
            have hgs := hg.1.size
            have hsa := HB.out.size
            have hsA := hbK.size
            have htr := hg.trG hT1 (fun i hi => (HP1.out i hi).2)
            have hlm := meetL_len (kx.take j) l'
            have hlm2 := nmsL_take hlt
            have hlm3 : (Tr.nmsL (kx.take (j + 1))).length ≤ (Tr.nmsL kx).length := by
              conv => rhs; rw [← List.take_append_drop (j + 1) kx]
              rw [nmsL_app, List.length_append]
              omega
            rw [← hl2] at hlm
            rw [hlm2, List.length_append] at hlm3
            have hP2 := (GrO.of_below hbK (.slice p' l2.length c')).own' (hg.own' HP1.out)
            have HIC := Lib.hid (HIH.out kx[j] P _ l2 (.slice p' l2.length c') (wr.alloc (.cells #[.string (bs m0), .string (bs m1), .slice u4 u1.length u5, .slice u6 u2.length u7, .string (bs u3)] 44)) (HKS.out j hlt) (okL_get 2 kx HX3.out j hlt) (htr.below hbK) (owns_below hown hbK) (by omega) hP2 (by have := HLN.out; have := HLL.out.2; omega))
            have HG := Lib.hid (hg.trans (GrO.of_below hbK _))
            have HNX := Lib.hid (show Tr.meetL l' (kx.take (j + 1)) = kx[j].meet l2 from by rw [meetL_take hlt, hl2])
            generalize kx[j].meet l2 = l3 at *
            have hNK := Blk.new wr 44 #[.string (bs m0), .string (bs m1), .slice u4 u1.length u5, .slice u6 u2.length u7, .string (bs u3)]
            have c0 := (hNK.cell 0).trans rfl
            have c1 := (hNK.cell 1).trans rfl
            have c2 := (hNK.cell 2).trans rfl
            have c3 := (hNK.cell 3).trans rfl
            have c4 := (hNK.cell 4).trans rfl
            have HIC : RowKit.Hid (Calls Tryz.prog 49 #[.agg #[.string (bs m0), .string (bs m1), .slice u4 u1.length u5, .slice u6 u2.length u7, .string (bs u3)], .slice p' l2.length c'] (wr.alloc (.cells #[.string (bs m0), .string (bs m1), .slice u4 u1.length u5, .slice u6 u2.length u7, .string (bs u3)] 44)) _) := Lib.hid HIC.out
            clear hgx hl2 hown hg hbK hNK hgs hsA hT1 htr hlm hlm2 hlm3 hP2
            go_wp2_with (go_at_call 49; refine HIC.out.mono ?_; clear HIC; rintro e w3 ⟨p3, c3, rfl, ho3, hg3⟩)
            go_roundw
            case rel => exact ⟨j + 1, l3, p3, c3, by omega, by go_num, rfl, HNX.out.symm, ho3, HG.out.trans hg3⟩
            case measure => simp [intOf]; omega
          · obtain rfl : j = kx.length := by omega
            rw [List.take_of_length_le (Nat.le_refl _)] at hl2
            obtain rfl : M = l2 := by rw [HM.out, hl2, HLL.out.1]
            have HO3 := Lib.hid hown
            have HG3 := Lib.hid ((GrO.of_below HB.out _).trans hg)
            clear hl2 hown hg
            go_wp2_with fail
            go_ret
            exact ⟨_, _, rfl, HO3.out, HG3.out⟩
end Go.Proofs.YtkghpmpmcafhkaaGreatDoor
namespace Go.Proofs.YtkghpmpmcafhkaaGreatDoor
set_option maxHeartbeats 8000000
set_option maxRecDepth 20000
open Go.RowKit
theorem rdd_def (n : Nat) : Lib.decDigits n = if n < 10 then [UInt8.ofNat (48 + n)] else Lib.decDigits (n / 10) ++ [UInt8.ofNat (48 + n % 10)] := by
  conv => lhs; rw [Lib.decDigits]
  split <;> rfl
theorem rdd_small {n : Nat} (h : n < 10) : Lib.decDigits n = [UInt8.ofNat (48 + n)] := by rw [rdd_def, if_pos h]
theorem rdd_len : ∀ (k n : Nat), n < 10 ^ (k + 1) → (Lib.decDigits n).length ≤ k + 1
  | 0, n, h => by rw [rdd_small (by simpa using h)]; simp
  | k + 1, n, h => by
    by_cases h10 : n < 10
    · rw [rdd_small h10]; simp
    · rw [rdd_def, if_neg h10, List.length_append]
      have h2 : n / 10 < 10 ^ (k + 1) := by rw [Nat.pow_succ] at h; omega
      have := rdd_len k (n / 10) h2
      simp only [List.length_cons, List.length_nil]
      omega
theorem conv_dig (k : Nat) (w : World) : (convert 3 5 (.int .i64 (48 + (k : Int)))).run Tryz.prog w = .ok (.int .u8 ((UInt8.ofNat (48 + k)).toNat : Int)) w := by
  go_simp
  exact IntKind.wrap_u8 _
theorem rdig_any (n : Nat) (hn : n ≤ 1000000) (w : World) : Calls Tryz.prog 51 #[.int .i64 (n : Int)] w fun e w' => e = .returned (.string (bs (Lib.decDigits n))) ∧ Below w.heap.size w w' := by
  induction n using Nat.strongRecOn generalizing w with
  | _ n ih =>
    by_cases h : n < 10
    · have d : decide ((n : Int) < 10) = true := decide_eq_true (by omega)
      have d' : decide (n < 10) = true := decide_eq_true h
      have HD := Lib.hid (rdd_small h)
      have hc := conv_dig n
      generalize UInt8.ofNat (48 + n) = c at *
      have hby := byt_one w c 5 (0, 0) w.heap.size rfl
      have hs := run_str (P := Tryz.prog) Tryz.underlying64 Tryz.underlying5 Tryz.underlying9 hby
      have HB := Lib.hid (below_alloc1 w (.cells #[.int .u8 (c.toNat : Int)] 5))
      clear ih hby
      go_enter Tryz.func51, Tryz.ntmps51
      go_wp2_with fail
      go_ret
      rw [HD.out]
      exact ⟨rfl, HB.out⟩
    · have d : decide ((n : Int) < 10) = false := decide_eq_false (by omega)
      have d' : decide (n < 10) = false := decide_eq_false h
      have HD := Lib.hid (show Lib.decDigits n = Lib.decDigits (n / 10) ++ [UInt8.ofNat (48 + n % 10)] by rw [rdd_def, if_neg h])
      have HI := Lib.hid (ih (n / 10) (by omega) (by omega))
      have hl := rdd_len 5 (n / 10) (by omega)
      have hc := conv_dig (n % 10)
      have q1 : (n : Int).tdiv 10 = ((n / 10 : Nat) : Int) := by rw [Int.tdiv_eq_ediv_of_nonneg (by omega)]; omega
      have q2 : (n : Int).tmod 10 = ((n % 10 : Nat) : Int) := by rw [Int.tmod_eq_emod_of_nonneg (by omega)]; omega
      have hn2 : n % 10 < 10 := Nat.mod_lt _ (by omega)
      have hn1 : n / 10 ≤ 100000 := by omega
      generalize UInt8.ofNat (48 + n % 10) = c at *
      generalize Lib.decDigits (n / 10) = D at *
      generalize n / 10 = n1 at *
      generalize n % 10 = n2 at *
      clear ih
      go_enter Tryz.func51, Tryz.ntmps51
      go_wp2_with fail
      have w1 : IntKind.i64.wrap (48 + (n2 : Int)) = 48 + (n2 : Int) := IntWalk.i64_in _ (by omega)
      have w2 : IntKind.i64.wrap (n1 : Int) = (n1 : Int) := IntWalk.i64_in _ (by omega)
      have w3 : IntKind.i64.wrap (n2 : Int) = (n2 : Int) := IntWalk.i64_in _ (by omega)
      refine wp_phi_tail (List.take 10 _) (List.drop 10 _) (List.take_append_drop 10 _).symm (fun w' => Below w.heap.size w w') [(2, PVal (.string (bs D))), (7, PByt [c]), (8, PVal (.string (bs [c])))] [(8, [7])] (by kernel_rfl) (by kernel_rfl) ?_ ?_ (Below.refl _ _).drew ?_
      · intro w1' w2' h1 hb
        exact h1.trans (hb.mono h1.size)
      · simp only [List.mem_cons, List.not_mem_nil, or_false, forall_eq_or_imp, forall_eq]
        exact ⟨fun _ _ _ _ _ h => h, fun w w' v _ hb h => PByt_stays _ w w' v hb h, fun _ _ _ _ _ h => h⟩
      simp only [List.take_succ_cons, List.take_zero, List.drop_succ_cons, List.drop_zero]
      repeat (first | (refine phi_skipK rfl (fun K hK => ?_); simp only [Act.put, List.setIfInBounds_toArray, List.set_cons_succ, List.set_cons_zero, List.cons_append, List.nil_append]; apply hK; clear hK K) | (refine phi_pureK rfl rfl (fun K hK => ?_); apply Exists.intro; constructor; (focus (rintro w' h1; (skip); first | (go_simp; done) | (go_simp; (try go_bits); (try go_simp); rfl) | go_simp)); simp only [Act.put, List.setIfInBounds_toArray, List.set_cons_succ, List.set_cons_zero, List.cons_append, List.nil_append]; apply hK; clear hK K))
      refine phi_partK (PVal (.string (bs D))) rfl rfl ⟨_, rfl⟩ ?_ (fun K hK v hv => ?_)
      · intro w' h1 _
        unfold gives
        go_simp
        refine (HI.out w').mono ?_
        rintro e w'' ⟨rfl, hb⟩
        exact ⟨_, rfl, rfl, trivial, hb⟩
      obtain rfl : v = _ := hv
      simp only [Act.put, List.setIfInBounds_toArray, List.set_cons_succ, List.set_cons_zero, List.cons_append, List.nil_append]
      apply hK
      clear hK K
      repeat (first | (refine phi_skipK rfl (fun K hK => ?_); simp only [Act.put, List.setIfInBounds_toArray, List.set_cons_succ, List.set_cons_zero, List.cons_append, List.nil_append]; apply hK; clear hK K) | (refine phi_pureK rfl rfl (fun K hK => ?_); apply Exists.intro; constructor; (focus (rintro w' h1; (have h9 := hc w'); first | (go_simp; done) | (go_simp; (try go_bits); (try go_simp); rfl) | go_simp)); simp only [Act.put, List.setIfInBounds_toArray, List.set_cons_succ, List.set_cons_zero, List.cons_append, List.nil_append]; apply hK; clear hK K))
      refine phi_partK (PByt [c]) rfl rfl ⟨_, none, 0, rfl⟩ ?_ (fun K hK v hv => ?_)
      · intro w' h1 _
        unfold gives
        go_simp
        exact ⟨⟨_, _, rfl⟩, byt_one w' _ _ _ _ rfl, below_alloc1 _ _⟩
      obtain ⟨p', c', rfl⟩ := hv
      simp only [Act.put, List.setIfInBounds_toArray, List.set_cons_succ, List.set_cons_zero, List.cons_append, List.nil_append]
      apply hK
      clear hK K
      refine phi_partK (PVal (.string (bs [c]))) rfl rfl ⟨_, rfl⟩ ?_ (fun K hK v hv => ?_)
      · intro w' h1 hf
        have hby : Byt w' _ [c] := hf (7, fun w => (PByt [c]).fact w (.slice p' [c].length c')) (by simp) (List.contains_iff_mem.1 rfl)
        have hs := run_str (P := Tryz.prog) Tryz.underlying64 Tryz.underlying5 Tryz.underlying9 hby
        rw [show ([c] : List UInt8).length = 1 from rfl] at hs
        clear hf hby
        unfold gives
        go_simp
        exact ⟨rfl, trivial, Below.refl _ _⟩
      obtain rfl : v = _ := hv
      simp only [Act.put, List.setIfInBounds_toArray, List.set_cons_succ, List.set_cons_zero, List.cons_append, List.nil_append]
      apply hK
      clear hK K
      repeat (first | (refine phi_skipK rfl (fun K hK => ?_); simp only [Act.put, List.setIfInBounds_toArray, List.set_cons_succ, List.set_cons_zero, List.cons_append, List.nil_append]; apply hK; clear hK K) | (refine phi_pureK rfl rfl (fun K hK => ?_); apply Exists.intro; constructor; (focus (rintro w' h1; (have s1 := run_str_add (P := Tryz.prog) w' D [c] (by simp; omega)); first | (go_simp; done) | (go_simp; (try go_bits); (try go_simp); rfl) | go_simp)); simp only [Act.put, List.setIfInBounds_toArray, List.set_cons_succ, List.set_cons_zero, List.cons_append, List.nil_append]; apply hK; clear hK K))
      refine phi_done ?_
      rintro w1 h1 _
      have HB := Lib.hid h1
      clear h1
      go_wp2_with fail
      go_ret
      rw [HD.out]
      exact ⟨rfl, HB.out⟩
end Go.Proofs.YtkghpmpmcafhkaaGreatDoor
namespace Go.Proofs.YtkghpmpmcafhkaaGreatDoor
set_option maxHeartbeats 8000000
set_option maxRecDepth 20000
open Go.RowKit
attribute [local go_sem] bs_toList
theorem at_sto (n m : Nat) {P : Program} {ops : Array Oper} {Q : Exit → Act → World → Prop} {rest : List Oper} {a : Act} {w : World} {dst : Option Nat} {ty t : TypeId} {pos : String} {after : Array Edge} {gd : Option (Nat × Bool)}
    (h : wpList P ops Q ({ dst := dst, op := .store ty (.tmp n) (.tmp m), type := t, pos := pos, after := after, guard := gd } :: rest) a w) : wpList P ops Q ({ dst := dst, op := .store ty (.tmp n) (.tmp m), type := t, pos := pos, after := after, guard := gd } :: rest) a w := h
theorem split_local (s : List UInt8) : ((splitF (s ++ [58])).1 == s) = !s.contains 58 := by
  unfold splitF
  by_cases h : (58 : UInt8) ∈ s
  · obtain ⟨a, b, rfl, ha⟩ := List.eq_append_cons_of_mem h
    have h1 : (a ++ 58 :: b) ++ [58] = a ++ 58 :: (b ++ [58]) := by simp
    have h2 : (a ++ 58 :: b).contains 58 = true := List.contains_iff_mem.2 h
    rw [h1, cut_at _ (fun c hc e => ha (by rw [← e]; exact hc)), h2]
    show (a == a ++ 58 :: b) = false
    rw [beq_eq_false_iff_ne]
    intro e
    have := congrArg List.length e
    simp at this
  · rw [cut_at [] (fun c hc e => h (by rw [← e]; exact hc))]
    have : s.contains 58 = false := by rw [Bool.eq_false_iff]; exact fun hh => h (List.contains_iff_mem.1 hh)
    rw [this]
    simp
theorem rlocal_any (s : List UInt8) (hm : s.length ≤ 1000000) (w : World) : Calls Tryz.prog 93 #[.string (bs s)] w (Gives w (.bool (localB s))) := by
  have s1 : ∀ w, (Op.stringOp .add (bs s) ⟨#[58]⟩).run Tryz.prog w = .ok (.string (bs (s ++ [58]))) w := fun w => run_str_add (P := Tryz.prog) w s [58] (by simp; omega)
  have HSP := Lib.hid (rsplit_any (s ++ [58]) (by simp; omega) w)
  have HN := Lib.hid (fun w2 => rname_any s (by omega) w2)
  have hsl := split_local s
  unfold localB
  generalize (splitF (s ++ [58])).1 = p at *
  generalize (splitF (s ++ [58])).2 = q at *
  generalize s.contains 58 = c at *
  unfold Gives
  cases c
  · have hsl : (p == s) = true := hsl
    cases hn : nameB s <;> rw [hn] at HN
    all_goals
      go_enter Tryz.func93, Tryz.ntmps93
      go_wp2_with (first | (go_at_call 82; refine HSP.out.mono ?_; clear HSP; rintro e w2 ⟨rfl, hb2⟩) | (go_at_call 114; refine (HN.out _).mono ?_; rintro e w3 ⟨rfl, rfl⟩))
      go_ret
      exact ⟨rfl, hb2⟩
  · have hsl : (p == s) = false := hsl
    rw [Bool.not_true, Bool.and_false]
    go_enter Tryz.func93, Tryz.ntmps93
    go_wp2_with (go_at_call 82; refine HSP.out.mono ?_; clear HSP; rintro e w2 ⟨rfl, hb2⟩)
    go_ret
    exact ⟨rfl, hb2⟩
theorem rprefixed_any (l : List (List UInt8)) (n0 n1 : List UInt8) (p : Option Addr) (c : Nat) (w : World) (hr : Rd w p (strs l)) (hc : l.length ≤ c) (hcm : c ≤ maxLen) (hl : l.length ≤ 1000000 - 1) (hn1 : n1.length ≤ 1000000) :
    Calls Tryz.prog 94 #[.agg #[.string (bs n0), .string (bs n1)], .slice p l.length c] w (Gives w (.string (bs (prefixedF l [n0, n1])))) := by
  have HB := Lib.hid (below_alloc1 w (.cells #[.string (bs n0), .string (bs n1)] 40))
  have HN := Lib.hid (Blk.new w 40 #[.string (bs n0), .string (bs n1)])
  have HRD := Lib.hid hr
  have c0 := (HN.out.cell 0).trans rfl
  have c1 := (HN.out.cell 1).trans rfl
  unfold maxLen at hcm
  unfold Gives
  obtain ⟨R, hR⟩ : ∃ R, prefixedF l [n0, n1] = R := ⟨_, rfl⟩
  rw [hR]
  have HR : RowKit.Hid ((if l.idxOf n0 < l.length then prefF (l.idxOf n0) ++ 58 :: n1 else n1) = R) := Lib.hid hR
  clear hr hR
  go_enter Tryz.func94, Tryz.ntmps94
  go_wp2_with fail
  generalize w.alloc (.cells #[.string (bs n0), .string (bs n1)] 40) = wa at *
  go_loop [5, 6, 9] (fun _ _ i => ∃ k : Nat, k ≤ l.length ∧ i = .int .i64 k ∧ n0 ∉ l.take k) (fun _ _ i => l.length - (intOf i).toNat)
  case atStart => exact ⟨0, by omega, rfl, by simp⟩
  case round =>
    obtain ⟨k, hk, rfl, hno⟩ := hrel
    by_cases hlt : k < l.length
    · obtain ⟨e1, o1, rfl, hcc⟩ := str_1 HRD.out hlt
      have hcc := Below.keeps HB.out _ _ hcc
      have hlt' : (k : Int) < (l.length : Int) := by omega
      have htk := List.take_succ_eq_append_getElem hlt
      obtain ⟨d, hd⟩ : ∃ d, l[k] = d := ⟨_, rfl⟩
      rw [hd] at hcc htk
      have HTK := Lib.hid htk
      have HNO := Lib.hid hno
      have HDD := Lib.hid hd
      clear htk hno hd
      cases hE : (d == n0)
      · go_wp2_with fail
        go_round
        case rel => exact ⟨k + 1, by omega, by go_num, by
          rw [HTK.out]
          intro h
          rcases List.mem_append.1 h with h | h
          · exact HNO.out h
          · rw [List.mem_singleton.1 h] at hE; simp at hE⟩
        case measure => simp [intOf]; omega
      · obtain rfl : d = n0 := by simpa using hE
        have hix : l.idxOf d = k := by
          have h1 : l = l.take k ++ d :: l.drop (k + 1) := by
            conv => lhs; rw [← List.take_append_drop k l, List.drop_eq_getElem_cons hlt, HDD.out]
          rw [h1, List.idxOf_append, if_neg HNO.out, List.length_take, List.idxOf_cons_self]
          omega
        have hR2 : prefF k ++ 58 :: n1 = R := by rw [← HR.out, hix, if_pos hlt]
        have HDG := Lib.hid (fun w2 => rdig_any (k + 1) (by omega) w2)
        have hdl := rdd_len 6 (k + 1) (by omega)
        have hpf : prefF k = 110 :: Lib.decDigits (k + 1) := rfl
        rw [hpf] at hR2
        generalize Lib.decDigits (k + 1) = D at *
        have hk1 : wrap64 ((k : Int) + 1) = ((k + 1 : Nat) : Int) := by unfold wrap64; omega
        have q1 : ∀ w, (Op.stringOp .add ⟨#[110]⟩ (bs D)).run Tryz.prog w = .ok (.string (bs (110 :: D))) w := fun w => run_str_add (P := Tryz.prog) w [110] D (by simp; omega)
        have q2 : ∀ w, (Op.stringOp .add (bs (110 :: D)) ⟨#[58]⟩).run Tryz.prog w = .ok (.string (bs (110 :: D ++ [58]))) w := fun w => run_str_add (P := Tryz.prog) w (110 :: D) [58] (by simp; omega)
        have q3 : ∀ w, (Op.stringOp .add (bs (110 :: D ++ [58])) (bs n1)).run Tryz.prog w = .ok (.string (bs (110 :: D ++ [58] ++ n1))) w := fun w => run_str_add (P := Tryz.prog) w (110 :: D ++ [58]) n1 (by simp; omega)
        have hfin : 110 :: D ++ 58 :: n1 = 110 :: D ++ [58] ++ n1 := by simp
        rw [hfin] at hR2
        clear hpf hfin hix HR
        obtain ⟨S1, hS1⟩ : ∃ S1, S1 = 110 :: D := ⟨_, rfl⟩
        rw [← hS1] at q1 q2 q3 hR2
        obtain ⟨S2, hS2⟩ : ∃ S2, S2 = S1 ++ [58] := ⟨_, rfl⟩
        rw [← hS2] at q2 q3 hR2
        obtain ⟨S3, hS3⟩ : ∃ S3, S3 = S2 ++ n1 := ⟨_, rfl⟩
        rw [← hS3] at q3 hR2
        have HR2 := Lib.hid hR2
        clear hS1 hS2 hS3 hdl hR2
        have HDW := Lib.hid HDG.out
        have hk2 : ((k + 1 : Nat) : Int) = (k : Int) + 1 := by omega
        rw [hk2] at HDW hk1
        go_wp2_with fail
        refine wp_phi (fun w' => (w'.cell? ⟨w.heap.size, 0 + 1, none⟩ = some (.string (bs n1))) ∧ Below wa.heap.size wa w') [(2, PVal (.string (bs D)))] [] (by kernel_rfl) (by kernel_rfl) ?_ ?_ ⟨c1, ((Below.refl _ wa)).drew⟩ ?_
        · rintro w1' w2' ⟨g1, hIB⟩ hb
          exact ⟨(by first | exact g1.below hb | exact g1.keep (Below.keeps hb) | exact Below.keeps hb _ _ g1 | exact Blk.below g1 hb (Blk.lt g1)), hIB.trans (hb.mono hIB.size)⟩
        · simp only [List.mem_cons, List.not_mem_nil, or_false, forall_eq_or_imp, forall_eq]
          exact fun _ _ _ _ h' h => PVal_stays _ _ _ _ h' h
        repeat (first | (refine phi_skipK rfl (fun K hK => ?_); simp only [Act.put, List.setIfInBounds_toArray, List.set_cons_succ, List.set_cons_zero, List.cons_append, List.nil_append]; apply hK; clear hK K) | (refine phi_pureK rfl rfl (fun K hK => ?_); apply Exists.intro; constructor; (focus (rintro w' ⟨g1, hIB⟩; skip; first | (go_simp; done) | (go_simp; (try go_bits); (try go_simp); rfl) | go_simp)); simp only [Act.put, List.setIfInBounds_toArray, List.set_cons_succ, List.set_cons_zero, List.cons_append, List.nil_append]; apply hK; clear hK K))
        refine phi_partK (PVal (.string (bs D))) rfl rfl ⟨_, rfl⟩ ?_ (fun K hK v hv => ?_)
        · rintro w' ⟨g1, hIB⟩ hf
          unfold gives
          clear hf
          go_simp
          refine (HDW.out w').mono ?_
          rintro e w'' ⟨rfl, hb⟩
          exact ⟨_, rfl, rfl, trivial, hb⟩
        obtain rfl : v = _ := hv
        simp only [Act.put, List.setIfInBounds_toArray, List.set_cons_succ, List.set_cons_zero, List.cons_append, List.nil_append]
        apply hK
        clear hK K
        repeat (first | (refine phi_skipK rfl (fun K hK => ?_); simp only [Act.put, List.setIfInBounds_toArray, List.set_cons_succ, List.set_cons_zero, List.cons_append, List.nil_append]; apply hK; clear hK K) | (refine phi_pureK rfl rfl (fun K hK => ?_); apply Exists.intro; constructor; (focus (rintro w' ⟨g1, hIB⟩; skip; first | (go_simp; done) | (go_simp; (try go_bits); (try go_simp); rfl) | go_simp)); simp only [Act.put, List.setIfInBounds_toArray, List.set_cons_succ, List.set_cons_zero, List.cons_append, List.nil_append]; apply hK; clear hK K))
        refine phi_done ?_
        rintro w2 ⟨g1, hb2⟩ _
        refine wpList_nil ?_
        go_wp2_with fail
        go_ret
        exact ⟨by rw [HR2.out]; rfl, HB.out.trans (hb2.mono HB.out.size)⟩
    · obtain rfl : k = l.length := by omega
      rw [List.take_of_length_le (Nat.le_refl _)] at hno
      obtain rfl : n1 = R := by rw [← HR.out, List.idxOf_eq_length hno, if_neg (by omega)]
      clear HR
      go_wp2_with fail
      go_ret
      exact ⟨rfl, HB.out⟩
end Go.Proofs.YtkghpmpmcafhkaaGreatDoor
