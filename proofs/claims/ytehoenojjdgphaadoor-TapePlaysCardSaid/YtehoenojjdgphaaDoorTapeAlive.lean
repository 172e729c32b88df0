/-
  TapeAlive: the walk of liaisonlaw06's alive.
-/
import Derived.Test.YtehoenojjdgphaaDoorTapeW4
namespace Go.Proofs.YtehoenojjdgphaaDoor
open Go.RowKit
attribute [local go_sem] bs_toList

def ok1 (w : World) (e : Ending) (w' : World) : Prop := e = .returned (.bool true) ∧ Below w.heap.size w w'
theorem byt_pair (w : World) (x y : UInt8) : Byt (w.alloc (.cells #[.int .u8 (x.toNat : Int), .int .u8 (y.toNat : Int)] 5 (2, 3))) (.slice (some ⟨w.heap.size, 0, none⟩) 2 2) [x, y] :=
  ⟨_, _, rfl, by simp, by unfold maxLen; omega, rd_new w #[_, _] _ _⟩
theorem byt_only {w w' : World} {b off n c a : Nat} {l : List UInt8} (h : Byt w (.slice (some ⟨b, off, none⟩) n c) l) (hne : b ≠ a) (k : Only a w w') : Byt w' (.slice (some ⟨b, off, none⟩) n c) l := by
  obtain ⟨p, cap, he, h1, h2, h3⟩ := h
  refine ⟨p, cap, he, h1, h2, ?_⟩
  rcases h3 with h3 | ⟨b', off', hp, hc⟩
  · exact .inl h3
  · subst hp
    cases he
    exact .inr ⟨_, _, rfl, fun i u hu => (World.cell?_of_block (k.block _ hne)).trans (hc i u hu)⟩
theorem byt_old {W w w' : World} {Ts : List TypeId} {v : Value} {l : List UInt8} {a : Nat} (h : Byt W v l) (K : Keeps W.heap.size Ts W w) (hB : W.heap.size ≤ a) (k : Only a w w') : Byt w' v l :=
  h.keep (Below.keeps (K.below.trans (k.below hB)))
theorem tp_lt {w : World} {B a : Nat} {s : TSt} (h : Tp w B a s) : a < w.heap.size := by
  obtain ⟨v, _, h2, _⟩ := h
  exact h2.lt
theorem tp_base {w : World} {B a : Nat} {s : TSt} (h : Tp w B a s) : B ≤ a := by
  obtain ⟨v, h1, _⟩ := h
  exact h1
def tpA : TSt := (((TSt.zero.setRoom 9).append [97, 98]).sync).append [99, 100]
set_option maxRecDepth 20000 in
set_option maxHeartbeats 1000000 in
theorem alive_any (w : World) (E : Nat → Addr) (he : ErrsOn [0, 5, 6] w E) :
    Calls Tryd.prog 7 #[] w (ok1 w) := by
  have HE := Lib.hid he
  clear he
  have kc := fun (w : World) (C : Array Value) (n c : Nat) => Lib.run_convert_bytes_const (P := Tryd.prog) w 22 5 C n c Tryd.underlying22 Tryd.underlying5
  go_enter Tryd.func7, Tryd.ntmps7
  go_wp2_with fail
  have K0 := Keeps.refl w.heap.size tapeTs w
  refine (new_ok w E w.heap.size 9 (errs_sub HE.out rfl) (by decide) (Nat.le_refl _)).mono ?_
  rintro e w1 ⟨rfl, ht1, K1'⟩
  have K1 := K0.trans K1'
  clear K1'
  have HT1 := Lib.hid ht1
  have hlt1 := tp_lt ht1
  clear ht1
  go_wp2_with fail
  have hy1 : Byt (w1.alloc (.cells #[.int .u8 97, .int .u8 98] 5 (2, 3))) (.slice (some ⟨w1.heap.size, 0, none⟩) 2 2) [97, 98] := byt_pair w1 97 98
  have K1' := K1.alloc K1.size (.cells #[.int .u8 97, .int .u8 98] 5 (2, 3))
  have HT1' := HT1.out.below (below_alloc1 w1 (.cells #[.int .u8 97, .int .u8 98] 5 (2, 3)))
  refine (append_any _ E w.heap.size w.heap.size (TSt.zero.setRoom 9) _ [97, 98] (errs_sub (HE.out.below K1'.below) rfl) HT1' K1'.size hy1 (fun w' k => byt_only hy1 (by omega) k) (by decide)).mono ?_
  rintro e w2 ⟨rfl, ht2, K2'⟩
  have K2 := K1'.trans K2'
  clear K2'
  clear hy1 HT1'
  rw [show (TSt.zero.setRoom 9).appendE [97, 98] = 0 from rfl, errV_nil]
  have HT2 := Lib.hid ht2
  clear ht2
  go_wp2_with fail
  refine (sync_any w2 E w.heap.size w.heap.size _ (errs_sub (HE.out.below K2.below) rfl) HT2.out).mono ?_
  rintro e w3 ⟨rfl, ht3, K3'⟩
  have K3 := K2.trans K3'
  clear K3'
  rw [show ((TSt.zero.setRoom 9).append [97, 98]).stepE = 0 from rfl, errV_nil]
  have HT3 := Lib.hid ht3
  have hlt3 := tp_lt ht3
  clear ht3
  go_wp2_with fail
  have hy3 : Byt (w3.alloc (.cells #[.int .u8 99, .int .u8 100] 5 (2, 3))) (.slice (some ⟨w3.heap.size, 0, none⟩) 2 2) [99, 100] := byt_pair w3 99 100
  have K3' := K3.alloc K3.size (.cells #[.int .u8 99, .int .u8 100] 5 (2, 3))
  have HT3' := HT3.out.below (below_alloc1 w3 (.cells #[.int .u8 99, .int .u8 100] 5 (2, 3)))
  refine (append_any _ E w.heap.size w.heap.size _ _ [99, 100] (errs_sub (HE.out.below K3'.below) rfl) HT3' K3'.size hy3 (fun w' k => byt_only hy3 (by omega) k) (by decide)).mono ?_
  rintro e w4 ⟨rfl, ht4, K4'⟩
  have K4 := K3'.trans K4'
  clear K4'
  clear hy3 HT3'
  rw [show (((TSt.zero.setRoom 9).append [97, 98]).sync).appendE [99, 100] = 0 from rfl, errV_nil]
  have HT4 := Lib.hid ht4
  clear ht4
  go_wp2_with fail
  refine (crash_any w4 w.heap.size w.heap.size _ 1 (by decide) HT4.out).mono ?_
  rintro e w5 ⟨rfl, ht5, K5'⟩
  have K5 := K4.trans K5'
  clear K5'
  have HT5 := Lib.hid (show Tp w5 w.heap.size w.heap.size ⟨false, false, 0, [97, 98, 99], 3, 9⟩ from ht5)
  clear ht5
  go_wp2_with fail
  refine (bytes_of_tape w5 w.heap.size w.heap.size _ HT5.out).mono ?_
  rintro e w6 ⟨v6, rfl, ho6, hb6⟩
  have s6 := str_of (owns_byt ho6)
  have HT6 := Lib.hid (HT5.out.below hb6)
  have K6 := K5.call K5.size hb6
  simp only at s6
  clear ho6 hb6
  go_wp2_with fail
  refine (sure_any w6 w.heap.size w.heap.size _ HT6.out).mono ?_
  rintro e w7 ⟨rfl, hb7⟩
  have K7 := K6.call K6.below.size hb7
  go_wp2_with fail
  go_ret
  exact ⟨rfl, K7.below⟩
end Go.Proofs.YtehoenojjdgphaaDoor
