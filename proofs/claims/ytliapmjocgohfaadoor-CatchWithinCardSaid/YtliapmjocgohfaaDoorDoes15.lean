/-
  Does15: the walk of liaisonlaw02.does: the kind 15, and all.
-/
import Derived.Test.YtliapmjocgohfaaDoorToldNum
namespace Go.Proofs.YtliapmjocgohfaaDoor
open Go.RowKit Go.Extern.Stop Go.Stop Go.Extern

/-- package api's errors, and strconv's ErrSyntax, that is none of them -/
structure Errs15 (w : World) (E : Nat → Addr) (sy : Addr) : Prop where
  errs : Errs w E
  syn : SynAt w sy
  ne : ∀ k, k < 14 → sy ≠ E k
  row : ∃ c t, w.heap[sy.block]? = some (.cells c t (0, 0))
theorem Errs15.below {w w' : World} {E : Nat → Addr} {sy : Addr} (h : Errs15 w E sy) (hb : Below w.heap.size w w') : Errs15 w' E sy :=
  ⟨h.errs.below hb, h.syn.below hb, h.ne, by
    obtain ⟨c, t, hc⟩ := h.row
    exact ⟨c, t, by rw [hb.block _ (Array.getElem?_eq_some_iff.1 hc).1]; exact hc⟩⟩
theorem check_any (w : World) (T : TypeId) (x : Value) : Calls Tryd.prog 14 #[.iface T x] w fun e w' => e = .panicked [{ v := .iface T x, recovered := false }] ∧ w = w' := by
  go_enter Tryd.func14, Tryd.ntmps14
  go_wp2_with fail
  exact ⟨rfl, rfl, rfl⟩
theorem does15 (w : World) (E : Nat → Addr) (sy : Addr) (c : Nat) (n0 : Int) (hbd : 0 ≤ n0 ∧ n0 ≤ 1000000000) (hb : Blk w c 3 #[.int .i64 n0]) (he : ∀ w', But [c] w w' → Errs15 w' E sy) :
    Calls Tryd.prog 17 #[.int .i64 15, .pointer (some ⟨c, 0, none⟩)] w (DoesR E (fun w' => Errs15 w' E sy) c n0 13 w) := by
  have HE := Lib.hid he
  have f0 := hb.frozen 0
  have c0 := (hb.cell 0).trans rfl
  have HB := Lib.hid (show Blk (w.setCell ⟨c, 0, none⟩ (.int .i64 (n0 + 1))) c 3 #[.int .i64 (n0 + 1)] from hb.set_ 0 _)
  have HU := Lib.hid (but_set w c 0 (.int .i64 (n0 + 1)))
  have hbd1 := hbd.1
  have hbd2 := hbd.2
  clear hb hbd he
  have HA := Lib.hid (atoi_text sy _ (HE.out _ HU.out).syn)
  have HC := Lib.hid check_any
  go_enter Tryd.func17, Tryd.ntmps17
  go_wp2_with fail
  refine HA.out.mono ?_
  rintro e w1 ⟨N, fn, s, rfl, hN, hBN, hb1⟩
  have HBN := Lib.hid hBN
  have HK1 := Lib.hid hb1
  have HNN := Lib.hid (show w.heap.size ≤ N by simpa using hN)
  clear hBN hb1 hN
  go_wp2_with fail
  refine (HC.out w1 76 (.pointer (some ⟨N, 0, none⟩))).mono ?_
  rintro e w2 ⟨rfl, rfl⟩
  have HT : RowKit.Hid (ToldK E (fun w' => Errs15 w' E sy) w w1 (.iface 76 (.pointer (some ⟨N, 0, none⟩))) 12) := Lib.hid (fun w'' hsz hk hy => told_gen E 76 (.pointer (some ⟨N, 0, none⟩)) w'' (fun w' hbw' he' k hk14 => by
    have hN1 := Blk.lt HBN.out
    have hN2 : Blk w'' N 84 #[.string fn, .string s, errAt sy] := (hk N HNN.out hN1).trans HBN.out
    exact is_num w' N fn s sy (E k) (Blk.below hN2 hbw' (Blk.lt hN2)) (hy.ne k hk14) (hy.below hbw').row (he'.row k hk14)) (assertN _))
  go_wp2_with fail
  exact ⟨rfl, HU.out.trans (But.of_below HK1.out), Blk.below HB.out HK1.out (Blk.lt HB.out), .inr ⟨_, 12, rfl, ⟨_, _, rfl⟩, HT.out, rfl⟩⟩
theorem does_any (w : World) (E : Nat → Addr) (sy : Addr) (k : Nat) (hk : k ≤ 20) (c : Nat) (n0 : Int) (hbd : 0 ≤ n0 ∧ n0 ≤ 1000000000) (hb : Blk w c 3 #[.int .i64 n0]) (he : ∀ w', But [c] w w' → Errs15 w' E sy) :
    Calls Tryd.prog 17 #[.int .i64 (k : Int), .pointer (some ⟨c, 0, none⟩)] w (DoesR E (fun w' => Errs15 w' E sy) c n0 (kindE k) w) := by
  by_cases h0 : k = 0
  · subst h0; exact does0 w E _ c n0 hbd hb
  by_cases h14 : k ≤ 14
  · rw [show kindE k = k by unfold kindE; rw [if_neg h0, if_pos h14]]
    exact doesErr w E _ c n0 k (by omega) hbd hb (fun w' h => (he w' h).errs)
  rw [show kindE k = 13 by unfold kindE; rw [if_neg h0, if_neg h14, if_pos (by omega)]]
  have h : k = 15 ∨ k = 16 ∨ k = 17 ∨ k = 18 ∨ k = 19 ∨ k = 20 := by omega
  rcases h with rfl | rfl | rfl | rfl | rfl | rfl
  · exact does15 w E sy c n0 hbd hb he
  · exact does16 w E _ c n0 hbd hb
  · exact does17 w E _ c n0 hbd hb
  · exact does18 w E _ c n0 hbd hb
  · exact does19 w E _ c n0 hbd hb
  · exact does20 w E _ c n0 hbd hb
end Go.Proofs.YtliapmjocgohfaaDoor
