/-
  JourI: journal.frames: the rows that stand at the beginning of bytes, handed over one by one.
-/
import Derived.Test.YtoiknidlincdkaaDoorJourR
import Derived.Test.YtoiknidlincdkaaDoorPhiIn
import Derived.Test.YtoiknidlincdkaaDoorRangeJ
import Derived.Shelf.Abstract
import Derived.OwnWalkIn
import Derived.TacticsInMore
import Derived.LoopNIn
import Derived.LoopIn
import Derived.IntWalk
namespace Go.Proofs.YtoiknidlincdkaaDoor
open Go.RowKit
attribute [local go_sem] Oper.semAt_some

theorem or_cnt (x y : UInt8) : bits .or .i64 ((x.toNat : Int) * 256) (y.toNat : Int) = ((x.toNat * 256 + y.toNat : Nat) : Int) := by
  have hx := x.toNat_lt
  have hy := y.toNat_lt
  generalize x.toNat = n at *
  generalize y.toNat = c at *
  have e1 : ∀ m : Nat, m < 18446744073709551616 → BitVec.ofInt 64 (m : Int) = BitVec.ofNat 64 m := by
    intro m hm
    apply BitVec.eq_of_toNat_eq
    rw [BitVec.ofInt_natCast]
  have e2 : ((n : Int) * 256) = ((n * 256 : Nat) : Int) := by omega
  have e3 : (n * 256) ||| c = n * 256 + c := by
    have := Nat.shiftLeft_add_eq_or_of_lt (i := 8) (b := c) (by omega) n
    rw [Nat.shiftLeft_eq] at this
    exact this.symm
  show IntKind.i64.wrap ((BitVec.ofInt 64 ((n : Int) * 256) ||| BitVec.ofInt 64 (c : Int)).toNat : Int) = _
  have e4 := e1 (n * 256) (by omega)
  have e5 := e1 c (by omega)
  have e6 : (n * 256) % 2 ^ 64 = n * 256 := by omega
  have e7 : c % 2 ^ 64 = c := by omega
  rw [e2, e4, e5, BitVec.toNat_or, BitVec.toNat_ofNat, BitVec.toNat_ofNat, e6, e7, e3]
  exact IntWalk.i64_in _ (by omega)
/-- the rows behind k -/
structure AtJ (b : List UInt8) (k n : Nat) : Prop where
  le : n ≤ b.length
  at_ : n = (framesJ ((readJ b).1.take k)).length
  kk : k ≤ (readJ b).1.length
  rest : (readJ (b.drop n)).1 = (readJ b).1.drop k
theorem AtJ.zero (b : List UInt8) : AtJ b 0 0 := ⟨Nat.zero_le _, by simp [framesJ], Nat.zero_le _, by simp⟩
theorem AtJ.none {b : List UInt8} {k n : Nat} (h : AtJ b k n) (hh : headJ (b.drop n) = none) : k = (readJ b).1.length := by
  have h1 := h.rest
  rw [readJ_none hh] at h1
  have h2 := congrArg List.length h1
  simp only [List.length_nil, List.length_drop] at h2
  have := h.kk
  omega
theorem AtJ.some {b : List UInt8} {k n : Nat} (h : AtJ b k n) {r : List UInt8} (hh : headJ (b.drop n) = some r) : ∃ hk : k < (readJ b).1.length, (readJ b).1[k] = r ∧ AtJ b (k + 1) (n + (r.length + 6)) := by
  have h1 := h.rest
  rw [readJ_some hh] at h1
  have hk : k < (readJ b).1.length := by
    have h2 := congrArg List.length h1
    simp only [List.length_cons, List.length_drop] at h2
    omega
  rw [List.drop_eq_getElem_cons hk] at h1
  injection h1 with h2 h3
  have hl := head_len hh
  rw [List.length_drop, List.length_drop] at hl
  refine ⟨hk, h2.symm, ⟨by have := h.le; omega, ?_, hk, ?_⟩⟩
  · rw [framesJ_take _ _ hk, List.length_append, ← h.at_, frameJ_len, ← h2]
  · rw [← h3, List.drop_drop]
def endJ (b : List UInt8) (k : Nat) : Nat := (framesJ ((readJ b).1.take (k + 1))).length
/-- what is handed over in the k-th round -/
def KnJ (b : List UInt8) (k : Nat) (args : Array Value) (A W : World) : Prop :=
  ∃ (v : Value) (r : List UInt8), (readJ b).1[k]? = some r ∧ args = #[.int .i64 (endJ b k : Int), v] ∧ W.ownsRow A.heap.size 5 1 v r.length (bvs r)
theorem frames_any (w : World) (v : Value) (p : Option Addr) (n c : Nat) (hv : v = .slice p n c) :
    Calls Tryd.prog 38 #[v] w fun e w' => e = .returned (.func (.func 56) #[] #[.pointer (some ⟨w.heap.size, 0, none⟩)]) ∧ w' = w.alloc (.cells #[v] 22) := by
  subst hv
  have hmf := @run_makeFunc Tryd.prog
  go_enter Tryd.func38, Tryd.ntmps38
  go_wp2_with fail
  go_ret
  exact ⟨rfl, rfl⟩
set_option maxRecDepth 20000 in
set_option maxHeartbeats 4000000 in
theorem frames1_in (F : Fence) (hF : FreeF F) (hro : F.round = none) (n l g : Nat) (b : List UInt8) (vb : Value) (E : Nat → Addr) (hbl : b.length ≤ 65536) (J : Nat → World → Prop)
    (hG : ∀ k A, J k A → Errs A E ∧ HalfTab A ∧ A.cell? ⟨g, 0, none⟩ = some vb ∧ Byt A vb b) (hK : ∀ k A B, J k A → Below A.heap.size A B → J k B)
    (hY : ∀ k args A W, k < (readJ b).1.length → J k A → Below A.heap.size A W → KnJ b k args A W → YieldAt F (n - 1) Tryd.prog l args W fun e W' => e = .returned (.bool true) ∧ J (k + 1) W') (W : World) (h0 : J 0 W) :
    CallsIn F n Tryd.prog 56 #[.func (.yield l) #[] #[], .pointer (some ⟨g, 0, none⟩)] W fun e W' => (∃ v, e = .returned v) ∧ J (readJ b).1.length W' := by
  obtain ⟨_, _, _, hvb⟩ := hG 0 W h0
  obtain ⟨pb, cb, rfl, q1, q2, q3⟩ := hvb
  unfold maxLen at q2
  have HG := Lib.hid hG
  have HK := Lib.hid hK
  have HY := Lib.hid hY
  have hdep := hF.depth
  have HF := Lib.hid hF
  clear hG hK hY q3
  refine callsIn_of_wp Tryd.func56 rfl (hF.fn _) ?_ hro
  clear hF
  simp only [Tryd.ntmps56, List.size_toArray, List.length_cons, List.length_nil, Nat.reduceAdd, Nat.reduceSub, Array.replicate_succ, Array.replicate_zero, List.push_toArray, List.append_toArray, List.nil_append, List.cons_append]
  gi_wp2
  gi_loopw [3] (fun a wr => ∃ k at_ : Nat, AtJ b k at_ ∧ a = .int .i64 (at_ : Int) ∧ J k wr) (fun a _ => b.length - (intOf a).toNat)
  case atStart => exact ⟨0, 0, AtJ.zero b, rfl, h0⟩
  case round =>
    obtain ⟨k, at_, hat, rfl, hj⟩ := hrel
    have HAT := Lib.hid hat
    have HJ := Lib.hid hj
    obtain ⟨he, ht, hc, hy⟩ := HG.out k wr hj
    have hle := hat.le
    clear hat hj
    by_cases h2 : b.length - at_ < 2
    · have d1 : decide (2 ≤ (b.length : Int) - (at_ : Int)) = false := by rw [decide_eq_false_iff_not]; omega
      have hk := HAT.out.none (by
        unfold headJ
        rw [if_neg]
        rintro ⟨h, _⟩
        rw [List.length_drop] at h
        omega)
      have HKK := Lib.hid hk
      clear hk he ht hy
      gi_wp2
      go_end0
      exact ⟨⟨_, rfl⟩, by rw [← HKK.out]; exact HJ.out⟩
    · have d1 : decide (2 ≤ (b.length : Int) - (at_ : Int)) = true := by rw [decide_eq_true_eq]; omega
      have HYB := Lib.hid hy
      obtain ⟨p9, c9, e9, _, _, hr9⟩ := hy
      cases e9
      obtain ⟨bb, off, hp, hcell⟩ := byt_cell hr9 (k := at_) (by omega)
      obtain ⟨bb1, off1, hp1, hcell1⟩ := byt_cell hr9 (k := at_ + 1) (by omega)
      subst hp
      cases hp1
      have hcn : cntJ (b.drop at_) = (b[at_]'(by omega)).toNat * 256 + (b[at_ + 1]'(by omega)).toNat := by
        unfold cntJ
        rw [List.getD, List.getElem?_drop, List.getD, List.getElem?_drop, Nat.add_zero, List.getElem?_eq_getElem (by omega), List.getElem?_eq_getElem (by omega)]
        rfl
      have HOR := Lib.hid (or_cnt (b[at_]'(by omega)) (b[at_ + 1]'(by omega)))
      have hb0 := (b[at_]'(by omega)).toNat_lt
      have hb1 := (b[at_ + 1]'(by omega)).toNat_lt
      generalize b[at_]'(by omega) = x at *
      generalize b[at_ + 1]'(by omega) = y at *
      have HCN := Lib.hid hcn
      have HC := Lib.hid hc
      have HCE := Lib.hid (And.intro hcell hcell1)
      have HHE := Lib.hid (And.intro he ht)
      clear hr9 hcn hcell hcell1 he ht
      gi_wp2
      clear hc
      have n1 : at_ < b.length := by omega
      have n2 : at_ + 1 < b.length := by omega
      have i1 : (at_ : Int) + 1 < (b.length : Int) := by omega
      have i2 : IntKind.i64.wrap ((at_ : Int) + 1) = (at_ : Int) + 1 := IntWalk.i64_in _ (by omega)
      have i3 : (0 : Int) ≤ (at_ : Int) + 1 := by omega
      have i4 : ((at_ : Int) + 1).toNat = at_ + 1 := by omega
      refine wp_pure_in HF.out (fun w' => Below wr.heap.size wr w') (by kernel_rfl) (by kernel_rfl) (by kernel_rfl) (Below.refl _ _).drew ?_
      repeat (first | (refine phiU_skipK rfl (fun K hK => ?_); simp only [Act.put, List.setIfInBounds_toArray, List.set_cons_succ, List.set_cons_zero]; (try simp only [List.cons_append]); (try simp only [List.nil_append]); apply hK; clear hK K) | (refine phiU_pureK rfl rfl (fun K hK => ?_); apply Exists.intro; constructor; (focus (rintro w' hI; have q0 := Below.keeps hI _ _ HC.out; have q1 := Below.keeps hI _ _ HCE.out.1; have q2 := Below.keeps hI _ _ HCE.out.2; clear hI; first | (go_simp; done) | (go_simp; (try go_bits); (try go_simp); rfl) | go_simp)); simp only [Act.put, List.setIfInBounds_toArray, List.set_cons_succ, List.set_cons_zero]; (try simp only [List.cons_append]); (try simp only [List.nil_append]); apply hK; clear hK K))
      rw [HOR.out, ← HCN.out]
      refine phiU_done ?_
      intro w1 hI _
      refine inQ_nil ?_
      clear n1 n2 i1 i2 i3 i4 hb0 hb1 HOR HCE
      have hc := Below.keeps hI _ _ HC.out
      have hcb : cntJ (b.drop at_) ≤ 65535 := by
        have h1 := ((b.drop at_).getD 0 0).toNat_lt
        have h2 := ((b.drop at_).getD 1 0).toNat_lt
        unfold cntJ
        omega
      have HJ1 := Lib.hid (HK.out k _ _ HJ.out hI)
      have HCD := Lib.hid (show ∀ c : Nat, cntJ (b.drop at_) = c → c = cntJ (b.drop at_) from fun _ h => h.symm)
      generalize hcc : cntJ (b.drop at_) = c at *
      have HCC := Lib.hid hcc
      clear hcc HCN HJ HC HCD HHE
      have hnone : ¬ (1 ≤ c ∧ c ≤ 200 ∧ at_ + c + 6 ≤ b.length) → k = (readJ b).1.length := fun h => HAT.out.none (by
        refine head_count ?_
        rw [HCC.out, List.length_drop]
        omega)
      have HNO := Lib.hid hnone
      clear hnone
      by_cases k1 : c < 1
      · have HKK := Lib.hid (HNO.out (by omega))
        have d2 : decide ((c : Int) < 1) = true := by rw [decide_eq_true_eq]; omega
        gi_wp2
        refine bodyPost_ret (results_none rfl _ _ _) rfl ?_
        exact ⟨⟨_, rfl⟩, by rw [← HKK.out]; exact HJ1.out⟩
      have d2 : decide ((c : Int) < 1) = false := by rw [decide_eq_false_iff_not]; omega
      by_cases k2 : 200 < c
      · have HKK := Lib.hid (HNO.out (by omega))
        have d3 : decide (200 < (c : Int)) = true := by rw [decide_eq_true_eq]; omega
        gi_wp2
        refine bodyPost_ret (results_none rfl _ _ _) rfl ?_
        exact ⟨⟨_, rfl⟩, by rw [← HKK.out]; exact HJ1.out⟩
      have d3 : decide (200 < (c : Int)) = false := by rw [decide_eq_false_iff_not]; omega
      by_cases k3 : b.length < at_ + c + 6
      · have HKK := Lib.hid (HNO.out (by omega))
        have d4 : decide ((b.length : Int) < (at_ : Int) + 2 + (c : Int) + 4) = true := by rw [decide_eq_true_eq]; omega
        gi_wp2
        refine bodyPost_ret (results_none rfl _ _ _) rfl ?_
        exact ⟨⟨_, rfl⟩, by rw [← HKK.out]; exact HJ1.out⟩
      have d4 : decide ((b.length : Int) < (at_ : Int) + 2 + (c : Int) + 4) = false := by rw [decide_eq_false_iff_not]; omega
      have HBL := Lib.hid (show Byt w1 (.slice (some ⟨bb, off + (at_ + 2), none⟩) (c + 4) (cb - (at_ + 2))) ((b.drop (at_ + 2)).take (c + 4)) from by
        obtain ⟨p8, c8, e8, _, _, hr8⟩ := HYB.out.below hI
        cases e8
        have hr7 := (hr8.drop (at_ + 2)).take (c + 4)
        rw [← bvs_drop, ← bvs_take, Option.map_some, cell_add] at hr7
        exact ⟨_, _, by rw [List.length_take, List.length_drop]; congr 1; omega, by rw [List.length_take, List.length_drop]; omega, by unfold maxLen; omega, hr7⟩)
      have HLL := Lib.hid (show ((b.drop (at_ + 2)).take (c + 4)).length = c + 4 from by rw [List.length_take, List.length_drop]; omega)
      have HHD := Lib.hid (show headJ (b.drop at_) = if openErr ((b.drop (at_ + 2)).take (c + 4)) = 0 then some ((b.drop (at_ + 2)).take c) else none from by
        unfold headJ
        rw [HCC.out, List.drop_drop]
        by_cases h0 : openErr ((b.drop (at_ + 2)).take (c + 4)) = 0
        · rw [if_pos h0, if_pos ⟨by rw [List.length_drop]; omega, by omega, by omega, by rw [List.length_drop]; omega, h0⟩]
        · rw [if_neg h0, if_neg (fun h => h0 h.2.2.2.2)])
      have HOP := Lib.hid (open_own _ _ w1 E (HG.out k w1 HJ1.out).2.1 (HG.out k w1 HJ1.out).1 (by rw [HLL.out]; omega) HBL.out)
      have HRS := Lib.hid (show openErr ((b.drop (at_ + 2)).take (c + 4)) = 0 → openRes ((b.drop (at_ + 2)).take (c + 4)) = (b.drop (at_ + 2)).take c from fun h => by
        unfold openRes
        rw [if_pos h, HLL.out, List.take_take]
        congr 1
        omega)
      have hnn : at_ + 2 + c + 2 - at_ = c + 4 := by omega
      gi_wp2
      clear hnn
      refine ⟨HF.out.fn _, ?_⟩
      refine (HF.out.calls _ _ _ _ _ _ HOP.out).mono ?_
      rintro e w2 ⟨v2, rfl, ho2, hb2⟩
      have HJ2 := Lib.hid (HK.out k _ _ HJ1.out hb2)
      have HB2 := Lib.hid hb2
      cases hE : openErr ((b.drop (at_ + 2)).take (c + 4)) with
      | succ m =>
        rw [errV_suc]
        rw [hE] at HHD
        have HKK := Lib.hid (HAT.out.none (by rw [HHD.out, if_neg (by omega)]))
        clear hE ho2 hb2 HHD HRS HOP hc
        gi_wp2
        refine ⟨fun _ h => (by cases h), ?_⟩
        gi_wp2
        refine bodyPost_ret (results_none rfl _ _ _) rfl ?_
        exact ⟨⟨_, rfl⟩, by rw [← HKK.out]; exact HJ2.out⟩
      | zero =>
        rw [errV_zero]
        rw [hE, if_pos rfl] at HHD
        have hrs := HRS.out hE
        rw [hrs] at ho2
        obtain ⟨hkr, hr, hat2⟩ := HAT.out.some HHD.out
        have hrl : ((b.drop (at_ + 2)).take c).length = c := by rw [List.length_take, List.length_drop]; omega
        have hend : (endJ b k : Int) = (at_ : Int) + 2 + (c : Int) + 4 := by
          unfold endJ
          rw [← hat2.at_, hrl]
          omega
        have hy := HY.out k #[.int .i64 (endJ b k : Int), v2] w1 w2 hkr HJ1.out HB2.out ⟨v2, _, by rw [List.getElem?_eq_getElem hkr, hr], rfl, ho2⟩
        rw [hend] at hy
        obtain ⟨fn, tmps, assign, body, hy, hR⟩ := hy
        have HR := Lib.hid hR
        have HA2 := Lib.hid hat2
        have HRL := Lib.hid hrl
        clear hE ho2 hb2 HHD HRS HOP hc hrs hr hkr hat2 hrl hend hR
        gi_wp2
        refine HR.out.mono ?_
        rintro e w3 ⟨rfl, hj3⟩
        have HJ3 := Lib.hid hj3
        clear hj3 hy
        gi_wp2
        go_roundw
        case rel => exact ⟨k + 1, at_ + c + 6, by have h := HA2.out; rw [HRL.out] at h; exact h, by go_num, HJ3.out⟩
        case measure => simp [intOf]; omega
end Go.Proofs.YtoiknidlincdkaaDoor
