/-
  LetterE: a message's numbers by tag, and its bytes.
-/
import Derived.Test.YtpbgappggmcmgaaDoorLetterW
import Derived.Test.YtpbgappggmcmgaaDoorEncP
import Derived.Test.YtpbgappggmcmgaaDoorJoinW
namespace Go.Proofs.YtpbgappggmcmgaaDoor
open Go.RowKit Go.Extern.Stop Go.Stop Go.Extern

def ptrs (g : Nat) : Array Value := #[.pointer (some ⟨g, 0, none⟩), .pointer (some ⟨g, 1, none⟩), .pointer (some ⟨g, 2, none⟩), .pointer (some ⟨g, 3, none⟩), .pointer (some ⟨g, 4, none⟩), .pointer (some ⟨g, 5, none⟩), .pointer (some ⟨g, 6, none⟩), .pointer (some ⟨g, 7, none⟩), .pointer (some ⟨g, 8, none⟩)]
set_option maxRecDepth 20000 in
set_option maxHeartbeats 2000000 in
theorem places_any (g : Nat) (w : World) : Calls Tryd.prog 25 #[.pointer (some ⟨g, 0, none⟩)] w fun e w' => e = .returned (.agg (ptrs g)) ∧ Below w.heap.size w w' := by
  have B := Lib.hid (below_alloc1 w (.cells #[.pointer none, .pointer none, .pointer none, .pointer none, .pointer none, .pointer none, .pointer none, .pointer none, .pointer none] 51))
  have N := Lib.hid (Blk.new w 51 #[.pointer none, .pointer none, .pointer none, .pointer none, .pointer none, .pointer none, .pointer none, .pointer none, .pointer none])
  go_enter Tryd.func25, Tryd.ntmps25
  go_wp2_with fail
  refine wp_phi_tail (List.take 30 _) (List.drop 30 _) (List.take_append_drop 30 _).symm (fun w' => Below w.heap.size w w' ∧ Blk w' w.heap.size 51 #[.pointer none, .pointer none, .pointer none, .pointer none, .pointer none, .pointer none, .pointer none, .pointer none, .pointer none]) [] [] (by kernel_rfl) (by kernel_rfl) ?_ ?_ ⟨B.out.drew, N.out⟩ ?_
  · rintro w1 w2 ⟨a1, a2⟩ hb
    exact ⟨a1.trans (hb.mono a1.size), a2.below hb a2.lt⟩
  · intro p hp; cases hp
  simp only [List.take_succ_cons, List.take_zero, List.drop_succ_cons, List.drop_zero]
  repeat (first | (refine phi_skipK rfl (fun K hK => ?_); simp only [Act.put, List.setIfInBounds_toArray, List.set_cons_succ, List.set_cons_zero]; (try simp only [List.cons_append]); (try simp only [List.nil_append]); apply hK; clear hK K) | (refine phi_pureK rfl rfl (fun K hK => ?_); apply Exists.intro; constructor; (focus (rintro w' ⟨h0, hN⟩; (clear h0 hN); first | (go_simp; done) | (go_simp; (try go_bits); (try go_simp); rfl) | go_simp)); simp only [Act.put, List.setIfInBounds_toArray, List.set_cons_succ, List.set_cons_zero]; (try simp only [List.cons_append]); (try simp only [List.nil_append]); apply hK; clear hK K))
  refine phi_done ?_
  rintro w' ⟨hb, hN⟩ _
  have B' := Lib.hid hb
  have N' := Lib.hid hN
  clear hb hN B N
  refine wpList_store (.tmp 2) (.tmp 32) 51 rfl rfl w.heap.size 0 _ _ (ptrs g) rfl rfl N'.out (by kernel_rfl) (by simp [Value.oneCell', ptrs]) (by simp [ptrs]) ?_
  intro w7 hn7 ko7
  have h7 : Blk w7 w.heap.size 51 (ptrs g) := hn7
  have q0 := (h7.cell 0).trans rfl
  have q1 := (h7.cell 1).trans rfl
  have q2 := (h7.cell 2).trans rfl
  have q3 := (h7.cell 3).trans rfl
  have q4 := (h7.cell 4).trans rfl
  have q5 := (h7.cell 5).trans rfl
  have q6 := (h7.cell 6).trans rfl
  have q7 := (h7.cell 7).trans rfl
  have q8 := (h7.cell 8).trans rfl
  go_wp2_with fail
  refine bodyPost_ret (v := .agg (ptrs g)) (by simp [results, Tryd.results25, go_sem, ptrs, q0, q1, q2, q3, q4, q5, q6, q7, q8]) rfl ?_
  exact ⟨rfl, B'.out.trans (ko7.below (Nat.le_refl _))⟩
end Go.Proofs.YtpbgappggmcmgaaDoor
