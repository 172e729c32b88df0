/-
  FldAlive: the walk of liaisonlaw03's alive.
-/
import Derived.Test.YtchclmimdpnkaaaDoorJoinW
namespace Go.Proofs.YtchclmimdpnkaaaDoor
open Go.RowKit
attribute [local go_sem] bs_toList

theorem fld_one (w : World) (n : Nat) (hn : n = w.heap.size) (p : Option Addr) (cap : Nat) (l : List UInt8) (tag : Int) (h : Byt w (.slice p l.length cap) l) :
    FldL (w.alloc (.cells #[.int .i64 tag, .slice p l.length cap] 60)) (.slice (some ⟨n, 0, none⟩) 1 1) [(tag, l)] := by
  subst hn
  refine ⟨_, 1, [.slice p l.length cap], rfl, Nat.le_refl _, by unfold maxLen; omega, rfl, rd_new w #[_, _] _ _, fun i f hf => ?_⟩
  cases i with
  | zero =>
    obtain rfl : (tag, l) = f := by simpa using hf
    exact ⟨_, rfl, h.keep (keep_alloc _ _)⟩
  | succ i => simp at hf
theorem errV_zero (E : Nat → Addr) : errV E 0 = .nilIface := rfl
theorem gb_byt {w w' : World} {E : Nat → Addr} {l : List UInt8} {n : Nat} {e : Ending} (h : GivesB w E l n e w') : ∃ p cap, e = .returned (.tuple #[.slice p l.length cap, errV E n]) ∧ Byt w' (.slice p l.length cap) l ∧ Below w.heap.size w w' := by
  obtain ⟨v, rfl, ho, hb⟩ := h
  have hby := owns_byt ho
  have hby' := hby
  obtain ⟨p, cap, rfl, _⟩ := hby'
  exact ⟨p, cap, rfl, hby, hb⟩
theorem byt_pair (w : World) (x y : UInt8) : Byt (w.alloc (.cells #[.int .u8 (x.toNat : Int), .int .u8 (y.toNat : Int)] 5 (2, 3))) (.slice (some ⟨w.heap.size, 0, none⟩) 2 2) [x, y] :=
  ⟨_, _, rfl, by simp, by unfold maxLen; omega, rd_new w #[_, _] _ _⟩
def ok1 (w : World) (e : Ending) (w' : World) : Prop := e = .returned (.bool true) ∧ Below w.heap.size w w'
set_option maxRecDepth 20000 in
set_option maxHeartbeats 1000000 in
theorem alive_any (w : World) (E : Nat → Addr) (he : ErrsOn [0, 3] w E) :
    Calls Tryd.prog 9 #[] w (ok1 w) := by
  have HE := Lib.hid he
  clear he
  have kc := fun (w : World) (C : Array Value) (n c : Nat) => Lib.run_convert_bytes_const (P := Tryd.prog) w 23 5 C n c Tryd.underlying23 Tryd.underlying5
  go_enter Tryd.func9, Tryd.ntmps9
  go_wp2_with fail
  have hb0 : Below w.heap.size w (w.alloc (.cells #[.int .u8 97, .int .u8 98] 5 (2, 3))) := below_alloc1 _ _
  have hb1 := below_alloc hb0 (.cells #[.int .i64 1, .slice (some ⟨w.heap.size, 0, none⟩) 2 2] 60)
  have hy : Byt (w.alloc (.cells #[.int .u8 97, .int .u8 98] 5 (2, 3))) (.slice (some ⟨w.heap.size, 0, none⟩) 2 2) [97, 98] := byt_pair w 97 98
  have hf : FldL ((w.alloc (.cells #[.int .u8 97, .int .u8 98] 5 (2, 3))).alloc (.cells #[.int .i64 1, .slice (some ⟨w.heap.size, 0, none⟩) 2 2] 60)) (.slice (some ⟨w.heap.size + 1, 0, none⟩) 1 1) [(1, [97, 98])] :=
    fld_one _ _ (by simp) _ 2 [97, 98] 1 hy
  have HB1 := Lib.hid hb1
  refine (join_any _ [(1, [97, 98])] _ E (errs_sub (HE.out.below hb1) rfl) hf).mono ?_
  rintro e w2 hg
  obtain ⟨p, cap, rfl, hby, hb2⟩ := gb_byt hg
  have hb2 := HB1.out.trans (hb2.mono HB1.out.size)
  rw [show joinR [(1, [97, 98])] = [1, 0, 2, 97, 98] from rfl] at hby ⊢
  rw [show joinE [(1, [97, 98])] = 0 from rfl, errV_zero]
  clear hf hy hb1 hb0 HB1 kc hg
  go_wp2_with fail
  refine (number_any 258 w2 E (by omega) (errs_sub (HE.out.below hb2) rfl)).mono ?_
  rintro e w3 hg
  obtain ⟨p3, c3, rfl, hby3, hb3⟩ := gb_byt hg
  have hn : numB (258 : Int).toNat = [1, 2] := by
    show numB 258 = _
    rw [numB_pos (by decide), numB_pos (by decide), numB_zero]; rfl
  rw [if_neg (by decide), hn] at hby3 ⊢
  rw [if_neg (by decide), errV_zero]
  have hb3' := hb2.trans (hb3.mono hb2.size)
  have s1 : (convert 23 9 (.slice p 5 cap)).run Tryd.prog w3 = .ok (.string (bs [1, 0, 2, 97, 98])) w3 := str_of (hby.keep (Below.keeps hb3))
  have s2 : (convert 23 9 (.slice p3 2 c3)).run Tryd.prog w3 = .ok (.string (bs [1, 2])) w3 := str_of hby3
  clear hby hby3 hg
  go_wp2_with fail
  go_ret
  exact ⟨rfl, hb3'⟩
end Go.Proofs.YtchclmimdpnkaaaDoor
