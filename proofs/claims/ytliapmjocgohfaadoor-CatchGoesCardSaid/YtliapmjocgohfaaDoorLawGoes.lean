/-
  LawGoes: the walk of CatchGoes.
-/
import Derived.Test.YtliapmjocgohfaaDoorGoes
import Derived.Test.YtliapmjocgohfaaDoorInts
import Derived.Test.YtliapmjocgohfaaDoorLawMust
namespace Go.Proofs.YtliapmjocgohfaaDoor
open Go.RowKit Go.Extern.Stop Go.Stop Go.Extern

set_option maxRecDepth 20000 in
set_option maxHeartbeats 2000000 in
theorem goes_law (v : Value) (l : List Int) (w : World) (E : Nat → Addr) (sy : Addr) (he : Errs15 w E sy) (hv : Iv w v l) :
    Calls Tryd.prog 5 #[v] w (ok1 w) := by
  have HE := Lib.hid he
  have hmf := @run_makeFunc Tryd.prog
  obtain ⟨p, cap, rfl, h1, h2, h3⟩ := hv
  have H3 := Lib.hid h3
  clear he h3
  unfold maxLen at h2
  go_enter Tryd.func5, Tryd.ntmps5
  go_wp2_with fail
  refine (alive_any _ E HE.out.errs).mono ?_
  rintro e w1 ⟨rfl, hb1⟩
  by_cases hl : l.length ≤ 60
  · have hld : decide (60 < (l.length : Int)) = false := decide_eq_false (by omega)
    have hld' : decide (60 < l.length) = false := decide_eq_false (by omega)
    have hb2 := below_alloc hb1 (.cells #[.int .i64 0] 3)
    have hn2 := Blk.new w1 3 #[.int .i64 0]
    have HB2 := Lib.hid hb2
    have HN2 := Lib.hid hn2
    have HS1 := Lib.hid hb1.size
    clear hb1 hb2 hn2
    go_wp2_with fail
    generalize w1.alloc (.cells #[.int .i64 0] 3) = w2 at *
    go_loopw [14] (fun i wr => ∃ k : Nat, k ≤ l.length ∧ i = .int .i64 k ∧ Below w.heap.size w wr ∧ Blk wr w1.heap.size 3 #[.int .i64 k]) (fun i _ => l.length - (intOf i).toNat)
    case atStart => exact ⟨0, by omega, rfl, HB2.out, HN2.out⟩
    case round =>
      obtain ⟨k, hk, rfl, hbw, hB⟩ := hrel
      by_cases hlt : k < l.length
      · obtain ⟨b', off, rfl, hc⟩ := iv_cell H3.out hlt
        have hcw := Below.keeps hbw _ _ hc
        generalize l[k] = x at *
        have hu := u64_conv x
        obtain ⟨m, hm, hm1⟩ : ∃ m : Nat, m < 21 ∧ (u64n x : Int) % 21 = (m : Int) := ⟨u64n x % 21, by omega, by omega⟩
        have hx0 := Blk.new wr 3 #[.int .i64 x]
        have cx0 := (hx0.cell 0).trans rfl
        have fx0 := hx0.frozen 0
        have HS3 := Lib.hid (show ((wr.alloc (.cells #[.int .i64 (m : Int)] 3)).alloc (.cells #[.int .i64 0] 3)).heap.size = wr.heap.size + 2 by simp)
        have HK3 := Lib.hid ((Blk.new wr 3 #[.int .i64 (m : Int)]).alloc (.cells #[.int .i64 0] 3))
        have HC3 := Lib.hid (show Blk ((wr.alloc (.cells #[.int .i64 (m : Int)] 3)).alloc (.cells #[.int .i64 0] 3)) (wr.heap.size + 1) 3 #[.int .i64 0] from by
          have := Blk.new (wr.alloc (.cells #[.int .i64 (m : Int)] 3)) 3 #[.int .i64 0]
          rwa [World.size_alloc] at this)
        have HE3 := Lib.hid ((hB.alloc (.cells #[.int .i64 (m : Int)] 3)).alloc (.cells #[.int .i64 0] 3))
        have HB3 := Lib.hid (below_alloc (below_alloc hbw (.cells #[.int .i64 (m : Int)] 3)) (.cells #[.int .i64 0] 3))
        have HBS := Lib.hid hbw.size
        have HLT := Lib.hid hB.lt
        have HKL := Lib.hid hlt
        have HM := Lib.hid hm
        clear hx0 hB hbw
        go_wp2_with fail
        generalize (wr.alloc (.cells #[.int .i64 (m : Int)] 3)).alloc (.cells #[.int .i64 0] 3) = w3 at *
        have hE : ∀ w', But [w1.heap.size, wr.heap.size + 1] w3 w' → Errs15 w' E sy := fun w' hb => by
          refine HE.out.below (HB3.out.trans (hb.below ?_ ?_))
          · intro s hs; simp at hs; have := HS1.out; have := HBS.out; omega
          · have := HS3.out; have := HBS.out; omega
        refine (tryB_any w3 E _ _ [w1.heap.size, wr.heap.size + 1] (fun _ v w' => v = .bool true ∧ Blk w' w1.heap.size 3 #[.int .i64 ((k : Int) + 1)]) (fun _ _ w' => Blk w' w1.heap.size 3 #[.int .i64 ((k : Int) + 1)])
          (fun s hs => by simp at hs; rcases hs with rfl | rfl; exact HE3.out.lt; exact HC3.out.lt) (fun w' hb => (hE w' hb).errs) (fun _ v _ hv => ⟨true, hv.1⟩) (fun w => by simp [go_sem]) (fun w4 hb4 hs4 => ?_)).mono ?_
        · exact goes1_any w4 E sy m (by have := HM.out; omega) w1.heap.size wr.heap.size (wr.heap.size + 1) (k : Int) (by have := HKL.out; omega) (HE3.out.below hb4 HE3.out.lt) (HK3.out.below hb4 HK3.out.lt) (HC3.out.below hb4 HC3.out.lt)
            (by have := HLT.out; omega) (fun w' h => hE w' ((But.of_below hb4).trans h))
        · rintro e w6 ⟨hb6, w4, w5, hs4, hb4, hb5, hb56, hor⟩
          have hB6 : Blk w6 w1.heap.size 3 #[.int .i64 ((k : Int) + 1)] ∧ ∃ u1 u2, e = .returned (.tuple #[u1, u2]) := by
            rcases hor with ⟨v, rfl, _, h⟩ | ⟨n, _, h, rfl⟩
            · exact ⟨hb56.blk h (by have := HLT.out; have := HS3.out; simp; omega), _, _, rfl⟩
            · exact ⟨hb56.blk h (by have := HLT.out; have := HS3.out; simp; omega), _, _, rfl⟩
          obtain ⟨hB6, u1, u2, rfl⟩ := hB6
          have hb6' : Below w.heap.size w w6 := HB3.out.trans (hb6.below (fun s hs => by simp at hs; have := HS1.out; have := HBS.out; omega) (by have := HS3.out; have := HBS.out; omega))
          have HB6 := Lib.hid hB6
          have HB6' := Lib.hid hb6'
          clear hb6 hs4 hb4 hb5 hb56 hor hB6 hb6'
          go_wp2_with fail
          refine ⟨⟨k + 1, by have := HKL.out; omega, by simp, HB6'.out, ?_⟩, ?_⟩
          · have := HB6.out
            simpa using this
          · simp [intOf]; have := HKL.out; omega
      · obtain rfl : k = l.length := by omega
        have ce := (hB.cell 0).trans rfl
        have HB := Lib.hid hbw
        clear hB hbw
        go_wp2_with fail
        go_ret
        exact ⟨rfl, HB.out⟩
  · have hld : decide (60 < (l.length : Int)) = true := decide_eq_true (by omega)
    have hld' : decide (60 < l.length) = true := decide_eq_true (by omega)
    have HB := Lib.hid hb1
    clear hb1
    go_wp2_with fail
    go_ret
    exact ⟨rfl, HB.out⟩
end Go.Proofs.YtliapmjocgohfaaDoor
