/-
  NetNo: a net's Take, Copy and Move where there is no such letter.
-/
import Derived.Test.YtbbhecadpbnobaaDoorNetMove
import Derived.Test.YtbbhecadpbnobaaDoorNR
namespace Go.Proofs.YtbbhecadpbnobaaDoor
open Go.RowKit
attribute [local irreducible] wpPhi wpPhiU

theorem ncopy_no (w : World) (E : Nat → Addr) (he : ErrsOn [0, 2, 5] w E) (n b : Nat) (p : Option Nat) (c : Nat) (st : NSt) (h : Nn w n b p c st) (i : Int) (hi : (decide (0 ≤ i) && decide (i < (st.ls.length : Int))) = false) :
    Calls Tryd.prog 15 #[.pointer (some ⟨n, 0, none⟩), .int .i64 i] w (NOut n b p c st (errV E 1) w) := by
  have HN := Lib.hid h
  have e0 := he.cell 0 rfl
  simp only [errVar, List.getD_cons_zero, List.getD_cons_succ, errAt] at e0
  have H1 := Lib.hid (there_any w n b p c st h i)
  rw [hi] at H1
  clear he h hi
  go_enter Tryd.func15, Tryd.ntmps15
  go_wp2_with fail
  refine H1.out.mono ?_
  rintro e w1 ⟨rfl, hw1⟩
  rw [hw1]
  clear hw1 w1
  go_wp2_with fail
  go_ret
  exact NOut.same HN.out (Below.refl _ _)
theorem nmove_no (w : World) (E : Nat → Addr) (he : ErrsOn [0, 2, 5] w E) (n b : Nat) (p : Option Nat) (c : Nat) (st : NSt) (h : Nn w n b p c st) (i t : Int) (hi : ((decide (0 ≤ i) && decide (i < (st.ls.length : Int))) && (decide (0 ≤ t) && decide (t < (st.ls.length : Int)))) = false) :
    Calls Tryd.prog 13 #[.pointer (some ⟨n, 0, none⟩), .int .i64 i, .int .i64 t] w (NOut n b p c st (errV E 1) w) := by
  have HN := Lib.hid h
  have e0 := he.cell 0 rfl
  simp only [errVar, List.getD_cons_zero, List.getD_cons_succ, errAt] at e0
  have H1 := Lib.hid (there_any w n b p c st h i)
  cases d1 : (decide (0 ≤ i) && decide (i < (st.ls.length : Int))) with
  | false =>
    rw [d1] at H1
    clear he h hi d1
    go_enter Tryd.func13, Tryd.ntmps13
    go_wp2_with fail
    refine H1.out.mono ?_
    rintro e w1 ⟨rfl, hw1⟩
    rw [hw1]
    clear hw1 w1
    go_wp2_with fail
    go_ret
    exact NOut.same HN.out (Below.refl _ _)
  | true =>
    rw [d1] at H1
    rw [d1, Bool.true_and] at hi
    have H2 := Lib.hid (there_any w n b p c st h t)
    rw [hi] at H2
    clear he h hi d1
    go_enter Tryd.func13, Tryd.ntmps13
    go_wp2_with fail
    refine H1.out.mono ?_
    rintro e w1 ⟨rfl, hw1⟩
    rw [hw1]
    clear hw1 w1
    go_wp2_with fail
    refine H2.out.mono ?_
    rintro e w1 ⟨rfl, hw1⟩
    rw [hw1]
    clear hw1 w1
    go_wp2_with fail
    go_ret
    exact NOut.same HN.out (Below.refl _ _)
set_option maxRecDepth 20000 in
set_option maxHeartbeats 1000000 in
theorem ntake_no (w : World) (E : Nat → Addr) (he : ErrsOn [0, 2, 5] w E) (n b : Nat) (p : Option Nat) (c : Nat) (st : NSt) (h : Nn w n b p c st) (i : Int) (hi : (decide (0 ≤ i) && decide (i < (st.ls.length : Int))) = false) :
    Calls Tryd.prog 11 #[.pointer (some ⟨n, 0, none⟩), .int .i64 i] w (NOut n b p c st (.tuple #[.agg #[.int .i64 0, .int .i64 0, .slice none 0 0], errV E 1]) w) := by
  have HN := Lib.hid h
  have hk := below_alloc1 w (.cells #[.int .i64 0, .int .i64 0, .slice none 0 0] 37)
  have HK := Lib.hid hk
  have HB := Lib.hid (Blk.new w 37 #[.int .i64 0, .int .i64 0, .slice none 0 0])
  have e0 := he.cell 0 rfl
  simp only [errVar, List.getD_cons_zero, List.getD_cons_succ, errAt] at e0
  have HLT := Lib.hid (cell_lt e0)
  have E0 := Lib.hid (Below.keeps hk _ _ e0)
  have H1 := Lib.hid (there_any _ n b p c st (h.below hk) i)
  rw [hi] at H1
  clear he h hi hk e0
  go_enter Tryd.func11, Tryd.ntmps11
  go_wp2_with fail
  refine H1.out.mono ?_
  rintro e w1 ⟨rfl, hw1⟩
  rw [hw1]
  clear hw1 w1
  go_wp2_with fail
  generalize w.alloc (.cells #[.int .i64 0, .int .i64 0, .slice none 0 0] 37) = w1 at *
  refine wp_phiU (fun j w2 w3 => if j = 2 then Only w.heap.size w2 w3 else Below w2.heap.size w2 w3)
    (fun w' => But [w.heap.size] w1 w') [(2, PSto fun w' => Blk w' w.heap.size 37 #[.int .i64 0, .int .i64 0, .slice none 0 0])] [] [(2, fun w' => Blk w' w.heap.size 37 #[.int .i64 0, .int .i64 0, .slice none 0 0])] [] (by kernel_rfl) (by kernel_rfl) ?_ ?_ ?_ ?_
    (But.of_below (Below.refl _ _).drew) ?_
  · intro p1 hp w2 w3 hI hR
    simp only [List.mem_cons, List.not_mem_nil, or_false] at hp
    subst hp
    exact hI.trans (but_only hR)
  · intro p1 hp p' hp' hne
    simp only [List.mem_cons, List.not_mem_nil, or_false] at hp hp'
    subst hp
    subst hp'
    exact absurd rfl hne
  · intro p1 hp u hu hne
    simp only [List.mem_cons, List.not_mem_nil, or_false] at hp hu
    subst hp
    subst hu
    exact absurd rfl hne
  · intro u hu
    simp only [List.mem_cons, List.not_mem_nil, or_false] at hu
    subst hu
    exact HB.out.below (Below.refl _ _).drew HB.out.lt
  repeat (first | (refine phiU_skipK rfl (fun K hK => ?_); simp only [Act.put, List.setIfInBounds_toArray, List.set_cons_succ, List.set_cons_zero]; (try simp only [List.cons_append]); (try simp only [List.nil_append]); apply hK; clear hK K) | (refine phiU_pureK rfl rfl (fun K hK => ?_); apply Exists.intro; constructor; (focus (rintro w' hI; have q0 := But.cell hI (by have := HLT.out; simp; omega) E0.out; clear hI; first | (go_simp; done) | (go_simp; (try go_bits); (try go_simp); rfl) | go_simp)); simp only [Act.put, List.setIfInBounds_toArray, List.set_cons_succ, List.set_cons_zero]; (try simp only [List.cons_append]); (try simp only [List.nil_append]); apply hK; clear hK K))
  refine phiU_partK (PSto fun w' => Blk w' w.heap.size 37 #[.int .i64 0, .int .i64 0, .slice none 0 0]) rfl rfl ⟨_, rfl⟩ ?_ (fun K hK v hv => ?_)
  · intro w' hI hf hu
    have hb : Blk w' w.heap.size 37 #[.int .i64 0, .int .i64 0, .slice none 0 0] := hu (2, fun w' => Blk w' w.heap.size 37 #[.int .i64 0, .int .i64 0, .slice none 0 0]) (by simp) rfl
    refine gives_store (.tmp 4) (.tmp 11) 37 rfl w.heap.size 0 _ _ #[.int .i64 0, .int .i64 0, .slice none 0 0] rfl rfl hb (by kernel_rfl) (by intro u hu; simp only [List.mem_cons, List.not_mem_nil, or_false] at hu; rcases hu with rfl | rfl | rfl <;> rfl) (by simp) ?_
    intro w'' hb2 ho2
    rw [putCells_all _ _ rfl] at hb2
    exact ⟨rfl, hb2, ho2⟩
  obtain rfl : v = _ := hv
  simp only [Act.put, List.setIfInBounds_toArray, List.set_cons_succ, List.set_cons_zero]; (try simp only [List.cons_append]); (try simp only [List.nil_append])
  apply hK
  clear hK K
  repeat (first | (refine phiU_skipK rfl (fun K hK => ?_); simp only [Act.put, List.setIfInBounds_toArray, List.set_cons_succ, List.set_cons_zero]; (try simp only [List.cons_append]); (try simp only [List.nil_append]); apply hK; clear hK K) | (refine phiU_pureK rfl rfl (fun K hK => ?_); apply Exists.intro; constructor; (focus (rintro w' hI; have q0 := But.cell hI (by have := HLT.out; simp; omega) E0.out; clear hI; first | (go_simp; done) | (go_simp; (try go_bits); (try go_simp); rfl) | go_simp)); simp only [Act.put, List.setIfInBounds_toArray, List.set_cons_succ, List.set_cons_zero]; (try simp only [List.cons_append]); (try simp only [List.nil_append]); apply hK; clear hK K))
  refine phiU_done ?_
  intro w9 hI hf
  have hb9 : Blk w9 w.heap.size 37 #[.int .i64 0, .int .i64 0, .slice none 0 0] := hf (2, fun w1 => (PSto fun w' => Blk w' w.heap.size 37 #[.int .i64 0, .int .i64 0, .slice none 0 0]).fact w1 undef) (by simp) rfl
  have z0 := (hb9.cell 0).trans rfl
  have z1 := (hb9.cell 1).trans rfl
  have z2 := (hb9.cell 2).trans rfl
  have HB9 := Lib.hid (HK.out.trans (hI.below (fun s hs => by obtain rfl : s = w.heap.size := by simpa using hs
                                                              exact Nat.le_refl _) HK.out.size))
  clear hf hb9 hI
  refine wpList_nil ?_
  go_wp2_with fail
  refine bodyPost_ret (v := .tuple #[.agg #[.int .i64 0, .int .i64 0, .slice none 0 0], errV E 1]) (by simp [results, Tryd.results11, go_sem, z0, z1, z2, errV, errAt]) rfl ?_
  exact NOut.same HN.out HB9.out
end Go.Proofs.YtbbhecadpbnobaaDoor
