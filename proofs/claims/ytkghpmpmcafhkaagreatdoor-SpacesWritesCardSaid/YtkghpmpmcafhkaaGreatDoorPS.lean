/- PcW -/
import Derived.Test.YtkghpmpmcafhkaaGreatDoorPD
import Derived.Test.YtkghpmpmcafhkaaGreatDoorPA
import Derived.Test.YtkghpmpmcafhkaaGreatDoorPC
import Derived.Test.YtkghpmpmcafhkaaGreatDoorPN
import Derived.Test.YtkghpmpmcafhkaaGreatDoorPE
import Derived.Test.YtkghpmpmcafhkaaGreatDoorPJ
namespace Go.Proofs.YtkghpmpmcafhkaaGreatDoor
set_option maxHeartbeats 4000000
set_option maxRecDepth 20000
open Go.RowKit
attribute [local go_sem] bs_toList
structure Pc where
  par : Int
  sp : List UInt8
  nm : List UInt8
  ats : List (List (List UInt8))
  sps : List (List UInt8)
  tx : List UInt8
def PcL (w : World) (v : Value) (ps : List Pc) : Prop :=
  ∃ p cap, v = .slice p ps.length cap ∧ ps.length ≤ cap ∧ cap ≤ maxLen ∧ ∀ i o, ps[i]? = some o → ∃ b off pa ca pq cq, p = some ⟨b, off, none⟩ ∧
    w.cell? ⟨b, off + i * 6, none⟩ = some (.int .i64 o.par) ∧ w.cell? ⟨b, off + i * 6 + 1, none⟩ = some (.string (bs o.sp)) ∧ w.cell? ⟨b, off + i * 6 + 2, none⟩ = some (.string (bs o.nm)) ∧
    w.cell? ⟨b, off + i * 6 + 3, none⟩ = some (.slice pa o.ats.length ca) ∧ w.cell? ⟨b, off + i * 6 + 4, none⟩ = some (.slice pq o.sps.length cq) ∧ w.cell? ⟨b, off + i * 6 + 5, none⟩ = some (.string (bs o.tx)) ∧
    (o.ats.length ≤ ca ∧ ca ≤ maxLen ∧ Rd w pa (acells o.ats)) ∧ (∀ a ∈ o.ats, a.length = 1 + 1) ∧ (o.sps.length ≤ cq ∧ cq ≤ maxLen ∧ Rd w pq (strs o.sps))
theorem PcL.keep {w w' : World} {v : Value} {ps : List Pc} (h : PcL w v ps) (hb : Below w.heap.size w w') : PcL w' v ps := by
  obtain ⟨p, cap, h1, h2, h3, h4⟩ := h
  refine ⟨p, cap, h1, h2, h3, fun i o ho => ?_⟩
  obtain ⟨b, off, pa, ca, pq, cq, e, c0, c1, c2, c3, c4, c5, ⟨a1, a2, a3⟩, hk, ⟨s1, s2, s3⟩⟩ := h4 i o ho
  have k := Below.keeps hb
  exact ⟨b, off, pa, ca, pq, cq, e, k _ _ c0, k _ _ c1, k _ _ c2, k _ _ c3, k _ _ c4, k _ _ c5, ⟨a1, a2, a3.keep k⟩, hk, ⟨s1, s2, s3.keep k⟩⟩
def atBig (a : List (List UInt8)) : Bool := decide (100 < (a.getD 0 []).length) || decide (200 < (a.getD 1 []).length)
def spBig (s : List UInt8) : Bool := decide (100 < s.length)
def Pc.big (o : Pc) : Bool := (decide (100 < o.nm.length) || (decide (100 < o.sp.length) || (decide (200 < o.tx.length) || (decide (20 < o.ats.length) || decide (20 < o.sps.length))))) || (o.ats.any atBig || o.sps.any spBig)
def bigF (ps : List Pc) : Bool := (decide (ps.length < 1) || decide (30 < ps.length)) || ps.any Pc.big
theorem any_drop {α : Type} {f : α → Bool} {xs : List α} {j : Nat} (h : j < xs.length) : (xs.drop j).any f = (f xs[j] || (xs.drop (j + 1)).any f) := by
  rw [List.drop_eq_getElem_cons h, List.any_cons]
theorem rd_str {w : World} {p : Option Addr} {xs : List (List UInt8)} (h : Rd w p (strs xs)) {i : Nat} (hi : i < xs.length) : ∃ b off, p = some ⟨b, off, none⟩ ∧ w.cell? ⟨b, off + i, none⟩ = some (.string (bs xs[i])) := by
  obtain ⟨b, off, hp, hc⟩ := h.has (fun e => by
    have : (strs xs).length = 0 := by rw [e]; rfl
    rw [strs_len] at this; omega)
  exact ⟨b, off, hp, hc i _ (by simp [strs, hi])⟩
theorem big_any (v : Value) (ps : List Pc) (w : World) (h : PcL w v ps) : Calls Tryz.prog 11 #[v] w (Gives w (.bool (bigF ps))) := by
  obtain ⟨p, cap, rfl, h1, h2, h3⟩ := h
  unfold maxLen at h2
  by_cases g1 : ps.length < 1
  · have d1 : decide ((ps.length : Int) < 1) = true := decide_eq_true (by omega)
    have hB : RowKit.Hid (bigF ps = true) := Lib.hid (by unfold bigF; rw [decide_eq_true g1]; rfl)
    clear g1 h3
    generalize bigF ps = B at *
    go_enter Tryz.func11, Tryz.ntmps11
    go_wp2_with fail
    go_ret
    exact ⟨by rw [hB.out] <;> rfl, Below.refl _ _⟩
  have d1 : decide ((ps.length : Int) < 1) = false := decide_eq_false (by omega)
  by_cases g2 : 30 < ps.length
  · have d2 : decide (30 < (ps.length : Int)) = true := decide_eq_true (by omega)
    have hB : RowKit.Hid (bigF ps = true) := Lib.hid (by unfold bigF; rw [decide_eq_true g2]; simp)
    clear g1 g2 h3
    generalize bigF ps = B at *
    go_enter Tryz.func11, Tryz.ntmps11
    go_wp2_with fail
    go_ret
    exact ⟨by rw [hB.out] <;> rfl, Below.refl _ _⟩
  have d2 : decide (30 < (ps.length : Int)) = false := decide_eq_false (by omega)
  obtain ⟨B, hB⟩ : ∃ B, ps.any Pc.big = B := ⟨_, rfl⟩
  rw [show bigF ps = B by unfold bigF; rw [decide_eq_false g1, decide_eq_false g2, hB]; rfl]
  have HB := Lib.hid hB
  have H3 := Lib.hid h3
  clear g1 hB h3
  go_enter Tryz.func11, Tryz.ntmps11
  go_wp2_with fail
  clear d1 d2
  go_loopw [19] (fun i wr => ∃ j : Nat, j ≤ ps.length ∧ i = .int .i64 j ∧ (ps.drop j).any Pc.big = B ∧ Below w.heap.size w wr) (fun i _ => ps.length - (intOf i).toNat)
  case atStart => exact ⟨0, by omega, rfl, HB.out, Below.refl _ _⟩
  case round =>
    clear HB
    obtain ⟨j, hj, rfl, hd, hbw⟩ := hrel
    by_cases hlt : j < ps.length
    · rw [any_drop hlt] at hd
      obtain ⟨b, off, pa, ca, pq, cq, rfl, c0, c1, c2, c3, c4, c5, ⟨a1, a2, a3⟩, hk, ⟨s1, s2, s3⟩⟩ := H3.out j ps[j] (List.getElem?_eq_getElem hlt)
      have k := Below.keeps hbw
      replace c0 := k _ _ c0; replace c1 := k _ _ c1; replace c2 := k _ _ c2; replace c3 := k _ _ c3; replace c4 := k _ _ c4; replace c5 := k _ _ c5
      replace a3 := a3.keep k; replace s3 := s3.keep k
      clear k
      generalize ps[j] = o at *
      obtain ⟨par, sp, nm, ats, sps, tx⟩ := o
      dsimp only at c0 c1 c2 c3 c4 c5 a1 a2 a3 hk s1 s2 s3
      generalize hX : (ps.drop (j + 1)).any Pc.big = X at *
      have HX := Lib.hid hX
      unfold Pc.big at hd
      dsimp only at hd
      unfold maxLen at a2 s2
      have hlt' : (j : Int) < (ps.length : Int) := by omega
      have hN := Blk.new wr 83 #[.int .i64 par, .string (bs sp), .string (bs nm), .slice pa ats.length ca, .slice pq sps.length cq, .string (bs tx)]
      have e1 := (hN.cell 1).trans rfl
      have e2 := (hN.cell 2).trans rfl
      have e3 := (hN.cell 3).trans rfl
      have e4 := (hN.cell 4).trans rfl
      have e5 := (hN.cell 5).trans rfl
      have HN := Lib.hid hN
      have HBN := Lib.hid (hbw.alloc hbw.size (.cells #[.int .i64 par, .string (bs sp), .string (bs nm), .slice pa ats.length ca, .slice pq sps.length cq, .string (bs tx)] 83))
      have HA := Lib.hid (a3.keep (Below.keeps (below_alloc1 wr (.cells #[.int .i64 par, .string (bs sp), .string (bs nm), .slice pa ats.length ca, .slice pq sps.length cq, .string (bs tx)] 83))))
      have HS := Lib.hid (s3.keep (Below.keeps (below_alloc1 wr (.cells #[.int .i64 par, .string (bs sp), .string (bs nm), .slice pa ats.length ca, .slice pq sps.length cq, .string (bs tx)] 83))))
      have HK := Lib.hid hk
      clear hX hN hbw a3 s3 hk
      have z1 : decide (100 < ((bs nm).size : Int)) = decide (100 < nm.length) := by rw [bs_size]; exact decide_eq_decide.2 (by omega)
      have z2 : decide (100 < ((bs sp).size : Int)) = decide (100 < sp.length) := by rw [bs_size]; exact decide_eq_decide.2 (by omega)
      have z3 : decide (200 < ((bs tx).size : Int)) = decide (200 < tx.length) := by rw [bs_size]; exact decide_eq_decide.2 (by omega)
      have z4 : decide (20 < (ats.length : Int)) = decide (20 < ats.length) := decide_eq_decide.2 (by omega)
      have z5 : decide (20 < (sps.length : Int)) = decide (20 < sps.length) := decide_eq_decide.2 (by omega)
      generalize decide (100 < nm.length) = b1 at *
      generalize decide (100 < sp.length) = b2 at *
      generalize decide (200 < tx.length) = b3 at *
      generalize decide (20 < ats.length) = b4 at *
      generalize decide (20 < sps.length) = b5 at *
      cases b1
      rotate_left 1
      · have HD := Lib.hid hd
        clear hd HA HS HN
        go_wp2_with fail
        go_ret
        exact ⟨by rw [← HD.out] <;> rfl, HBN.out⟩
      cases b2
      rotate_left 1
      · have HD := Lib.hid hd
        clear hd HA HS HN
        go_wp2_with fail
        go_ret
        exact ⟨by rw [← HD.out] <;> rfl, HBN.out⟩
      cases b3
      rotate_left 1
      · have HD := Lib.hid hd
        clear hd HA HS HN
        go_wp2_with fail
        go_ret
        exact ⟨by rw [← HD.out] <;> rfl, HBN.out⟩
      cases b4
      rotate_left 1
      · have HD := Lib.hid hd
        clear hd HA HS HN
        go_wp2_with fail
        go_ret
        exact ⟨by rw [← HD.out] <;> rfl, HBN.out⟩
      cases b5
      rotate_left 1
      · have HD := Lib.hid hd
        clear hd HA HS HN
        go_wp2_with fail
        go_ret
        exact ⟨by rw [← HD.out] <;> rfl, HBN.out⟩
      simp only [Bool.or_self, Bool.false_or] at hd
      have HD := Lib.hid hd
      clear hd
      obtain ⟨wa, hwa⟩ : ∃ wa, wa = wr.alloc (.cells #[.int .i64 par, .string (bs sp), .string (bs nm), .slice pa ats.length ca, .slice pq sps.length cq, .string (bs tx)] 83) := ⟨_, rfl⟩
      rw [← hwa] at HA HS HN HBN
      have HWA := Lib.hid hwa
      clear hwa
      go_wp2_with fail
      rw [← HWA.out]
      clear HWA c0 c1 c2 c3 c4 c5 e1 e2 e3 e4 e5 z1 z2 z3 z4 z5
      go_loopw [54] (fun i wr => ∃ j : Nat, j ≤ ats.length ∧ i = .int .i64 j ∧ (((ats.drop j).any atBig || sps.any spBig) || X) = B ∧ Below wa.heap.size wa wr) (fun i _ => ats.length - (intOf i).toNat)
      case atStart => exact ⟨0, by omega, rfl, HD.out, Below.refl _ _⟩
      case round =>
        clear HD
        obtain ⟨m, hm, rfl, hd, hbm⟩ := hrel
        by_cases hlm : m < ats.length
        · rw [any_drop hlm] at hd
          obtain ⟨e1, o1, x0, x1, rfl, hgx, hx0, hx1⟩ := at_1 HA.out HK.out hlm
          rw [hgx] at hd
          replace hx0 := Below.keeps hbm _ _ hx0
          replace hx1 := Below.keeps hbm _ _ hx1
          generalize hY : (ats.drop (m + 1)).any atBig = Y at *
          have HY := Lib.hid hY
          clear hY hgx
          unfold atBig at hd
          simp only [List.getD_cons_zero, List.getD_cons_succ] at hd
          have hlm' : (m : Int) < (ats.length : Int) := by omega
          have hM := Blk.new wr 69 #[.string (bs x0), .string (bs x1)]
          have q0 := (hM.cell 0).trans rfl
          have q1 := (hM.cell 1).trans rfl
          have HBM := Lib.hid (hbm.alloc hbm.size (.cells #[.string (bs x0), .string (bs x1)] 69))
          clear hM hbm
          have z1 : decide (100 < ((bs x0).size : Int)) = decide (100 < x0.length) := by rw [bs_size]; exact decide_eq_decide.2 (by omega)
          have z2 : decide (200 < ((bs x1).size : Int)) = decide (200 < x1.length) := by rw [bs_size]; exact decide_eq_decide.2 (by omega)
          generalize decide (100 < x0.length) = b1 at *
          generalize decide (200 < x1.length) = b2 at *
          have HD := Lib.hid hd
          clear hd
          cases b1
          rotate_left 1
          · go_wp2_with fail
            go_ret
            exact ⟨by rw [← HD.out] <;> simp, HBN.out.trans (HBM.out.mono HBN.out.size)⟩
          cases b2
          rotate_left 1
          · go_wp2_with fail
            go_ret
            exact ⟨by rw [← HD.out] <;> simp, HBN.out.trans (HBM.out.mono HBN.out.size)⟩
          go_wp2_with fail
          go_roundw
          case rel => exact ⟨m + 1, by omega, by go_num, by rw [HY.out, ← HD.out] <;> simp, HBM.out⟩
          case measure => simp [intOf]; omega
        · obtain rfl : m = ats.length := by omega
          rw [List.drop_of_length_le (Nat.le_refl _)] at hd
          have HD := Lib.hid (show (sps.any spBig || X) = B by rw [← hd] <;> simp)
          obtain ⟨wb, hwb⟩ : ∃ wb, wb = wr := ⟨_, rfl⟩
          have e4 := ((HN.out.below hbm HN.out.lt).cell 4).trans rfl
          subst hwb
          have HBM := Lib.hid hbm
          clear hbm hd
          go_wp2_with fail
          clear e4
          go_loopw [72] (fun i wr => ∃ j : Nat, j ≤ sps.length ∧ i = .int .i64 j ∧ ((sps.drop j).any spBig || X) = B ∧ wr = wb) (fun i _ => sps.length - (intOf i).toNat)
          case atStart => exact ⟨0, by omega, rfl, HD.out, rfl⟩
          case round =>
            clear HD
            obtain ⟨q, hq, rfl, hd, rfl⟩ := hrel
            by_cases hlq : q < sps.length
            · rw [any_drop hlq] at hd
              obtain ⟨b9, o9, rfl, hx⟩ := rd_str (HS.out.keep (Below.keeps HBM.out)) hlq
              generalize sps[q] = x at *
              generalize hY : (sps.drop (q + 1)).any spBig = Y at *
              have HY := Lib.hid hY
              clear hY
              unfold spBig at hd
              have hlq' : (q : Int) < (sps.length : Int) := by omega
              have z1 : decide (100 < ((bs x).size : Int)) = decide (100 < x.length) := by rw [bs_size]; exact decide_eq_decide.2 (by omega)
              generalize decide (100 < x.length) = b1 at *
              have HD := Lib.hid hd
              clear hd
              cases b1
              rotate_left 1
              · go_wp2_with fail
                go_ret
                exact ⟨by rw [← HD.out] <;> simp, HBN.out.trans (HBM.out.mono HBN.out.size)⟩
              go_wp2_with fail
              go_roundw
              case rel => exact ⟨q + 1, by omega, by go_num, by rw [HY.out, ← HD.out] <;> simp, trivial⟩
              case measure => simp [intOf]; omega
            · obtain rfl : q = sps.length := by omega
              rw [List.drop_of_length_le (Nat.le_refl _)] at hd
              have HD := Lib.hid (show X = B by rw [← hd] <;> simp)
              clear hd
              go_wp2_with fail
              go_roundw
              case rel => exact ⟨j + 1, by omega, by go_num, by rw [HX.out]; exact HD.out, HBN.out.trans (HBM.out.mono HBN.out.size)⟩
              case measure => simp [intOf]; omega
    · obtain rfl : j = ps.length := by omega
      rw [List.drop_of_length_le (Nat.le_refl _)] at hd
      have HD := Lib.hid (show false = B from hd)
      have HBW := Lib.hid hbw
      clear hd hbw
      go_wp2_with fail
      go_ret
      exact ⟨by rw [← HD.out] <;> rfl, HBW.out⟩
end Go.Proofs.YtkghpmpmcafhkaaGreatDoor
namespace Go.Proofs.YtkghpmpmcafhkaaGreatDoor
set_option maxHeartbeats 4000000
set_option maxRecDepth 20000
open Go.RowKit
def sumN : Nat → (Nat → Nat) → Nat
  | 0, _ => 0
  | n + 1, f => sumN n f + f n
theorem sumN_zero (f : Nat → Nat) : sumN 0 f = 0 := rfl
theorem sumN_succ (n : Nat) (f : Nat → Nat) : sumN (n + 1) f = sumN n f + f n := rfl
theorem sum_congr {n : Nat} {f g : Nat → Nat} (h : ∀ k, k < n → f k = g k) : sumN n f = sumN n g := by
  induction n with
  | zero => rfl
  | succ n ih => rw [sumN_succ, sumN_succ, ih fun k hk => h k (by omega), h n (by omega)]
theorem sum_zero (n : Nat) : sumN n (fun _ => 0) = 0 := by
  induction n with
  | zero => rfl
  | succ n ih => rw [sumN_succ, ih]
theorem sum_add (n : Nat) (f g : Nat → Nat) : sumN n (fun k => f k + g k) = sumN n f + sumN n g := by
  induction n with
  | zero => rfl
  | succ n ih => rw [sumN_succ, sumN_succ, sumN_succ, ih]; omega
theorem sum_swap (n m : Nat) (f : Nat → Nat → Nat) : sumN n (fun x => sumN m (fun k => f x k)) = sumN m (fun k => sumN n (fun x => f x k)) := by
  induction n with
  | zero => rw [sumN_zero]; exact (sum_zero m).symm
  | succ n ih => rw [sumN_succ, ih, ← sum_add]; rfl
theorem sum_one {n x : Nat} {f g : Nat → Nat} {d : Nat} (hx : x < n) (h1 : f x = g x + d) (h2 : ∀ k, k < n → k ≠ x → f k = g k) : sumN n f = sumN n g + d := by
  induction n with
  | zero => omega
  | succ n ih =>
    rw [sumN_succ, sumN_succ]
    by_cases h : x = n
    · subst h
      rw [sum_congr (g := g) fun k hk => h2 k (by omega) (by omega), h1]; omega
    · rw [ih (by omega) fun k hk => h2 k (by omega), h2 n (by omega) (fun e => h e.symm)]; omega
theorem sum_le {n : Nat} {f : Nat → Nat} (h : ∀ k, k < n → f k ≤ 1) : sumN n f ≤ n := by
  induction n with
  | zero => exact Nat.le_refl _
  | succ n ih => rw [sumN_succ]; have := ih fun k hk => h k (by omega); have := h n (by omega); omega
def anc (pr : Nat → Nat) (i x : Nat) : Nat := if x = i then 1 else if x < i then 0 else if h : pr x < x then anc pr i (pr x) else 0
termination_by x
theorem anc_self (pr : Nat → Nat) (i : Nat) : anc pr i i = 1 := by unfold anc; rw [if_pos rfl]
theorem anc_lt (pr : Nat → Nat) {i x : Nat} (h : x < i) : anc pr i x = 0 := by unfold anc; rw [if_neg (by omega), if_pos h]
theorem anc_up (pr : Nat → Nat) {i x : Nat} (h : i < x) (hp : pr x < x) : anc pr i x = anc pr i (pr x) := by
  conv => lhs; unfold anc
  rw [if_neg (by omega), if_neg (by omega), dif_pos hp]
theorem anc_le (pr : Nat → Nat) (i : Nat) : ∀ x, anc pr i x ≤ 1 := by
  intro x
  induction x using Nat.strongRecOn with
  | _ x ih =>
    unfold anc
    split
    · exact Nat.le_refl _
    · split
      · omega
      · split
        · rename_i h; exact ih _ h
        · omega
def kidN (pr : Nat → Nat) (i k : Nat) : Nat := if i < k ∧ pr k = i then 1 else 0
theorem kid_sum {pr : Nat → Nat} (hp : ∀ k, 0 < k → pr k < k) (i len : Nat) : ∀ x, x < len → sumN len (fun k => kidN pr i k * anc pr k x) = if i < x then anc pr i x else 0 := by
  intro x
  induction x using Nat.strongRecOn with
  | _ x ih =>
    intro hx
    by_cases hix : i < x
    · rw [if_pos hix]
      have hpx := hp x (by omega)
      have hs : sumN len (fun k => kidN pr i k * anc pr k x) = sumN len (fun k => kidN pr i k * anc pr k (pr x)) + kidN pr i x := by
        refine sum_one hx ?_ fun k hk hne => ?_
        · rw [anc_self, anc_lt pr hpx]; omega
        · rcases Nat.lt_or_gt_of_ne hne with h | h
          · rw [anc_up pr h hpx]
          · rw [anc_lt pr h, anc_lt pr (by omega : pr x < k)]
      rw [hs, ih (pr x) hpx (by omega), anc_up pr hix hpx]
      unfold kidN
      by_cases h1 : i < pr x
      · rw [if_pos h1, if_neg (by omega)]; rfl
      · rw [if_neg h1]
        by_cases h2 : pr x = i
        · rw [if_pos ⟨hix, h2⟩, h2, anc_self]
        · rw [if_neg (by omega), anc_lt pr (by omega)]
    · rw [if_neg hix]
      have : sumN len (fun k => kidN pr i k * anc pr k x) = sumN len (fun _ => 0) := sum_congr fun k _ => by
        unfold kidN
        by_cases h : i < k ∧ pr k = i
        · rw [anc_lt pr (by omega), Nat.mul_zero]
        · rw [if_neg h, Nat.zero_mul]
      rw [this, sum_zero]
def kidsTo (pr : Nat → Nat) (i n : Nat) : List Nat := (List.range n).filter fun k => decide (i < k) && pr k == i
theorem kidsTo_succ (pr : Nat → Nat) (i n : Nat) : kidsTo pr i (n + 1) = kidsTo pr i n ++ (if i < n ∧ pr n = i then [n] else []) := by
  unfold kidsTo
  rw [List.range_succ, List.filter_append]
  congr 1
  by_cases h : i < n ∧ pr n = i
  · rw [if_pos h]; simp [h.1, h.2]
  · rw [if_neg h]
    rw [List.filter_cons_of_neg (by simpa using h)]
    rfl
theorem kidsTo_low (pr : Nat → Nat) (i : Nat) : ∀ n, n ≤ i + 1 → kidsTo pr i n = []
  | 0, _ => rfl
  | n + 1, h => by rw [kidsTo_succ, kidsTo_low pr i n (by omega), if_neg (by omega)]; rfl
def trF (mk : Nat → List Tr → Tr) (pr : Nat → Nat) (len : Nat) : Nat → Nat → Tr
  | 0, i => mk i []
  | n + 1, i => mk i ((kidsTo pr i len).map (trF mk pr len n))
theorem szL_sum (f : Nat → Tr) (pr : Nat → Nat) (i : Nat) : ∀ n, Tr.szL ((kidsTo pr i n).map f) = sumN n fun k => kidN pr i k * (f k).sz
  | 0 => by unfold kidsTo; rfl
  | n + 1 => by
    have happ : ∀ xs ys : List Tr, Tr.szL (xs ++ ys) = Tr.szL xs + Tr.szL ys := by
      intro xs ys
      induction xs with
      | nil => rw [List.nil_append, Tr.szL]; omega
      | cons x xs ih => rw [List.cons_append, Tr.szL, Tr.szL, ih]; omega
    rw [kidsTo_succ, List.map_append, happ, szL_sum f pr i n, sumN_succ]
    congr 1
    show _ = kidN pr i n * (f n).sz
    unfold kidN
    by_cases h : i < n ∧ pr n = i
    · rw [if_pos h, if_pos h, List.map_singleton, Tr.szL, Tr.szL]; omega
    · rw [if_neg h, if_neg h, List.map_nil, Tr.szL]; omega
theorem trF_sz {mk : Nat → List Tr → Tr} {pr : Nat → Nat} (hmk : ∀ i ks, (mk i ks).sz = 1 + Tr.szL ks) (hp : ∀ k, 0 < k → pr k < k) (len : Nat) : ∀ n i, i < len → len ≤ n + i → (trF mk pr len n i).sz = sumN len (fun x => anc pr i x)
  | 0, i, h1, h2 => by omega
  | n + 1, i, h1, h2 => by
    show (mk i _).sz = _
    rw [hmk, szL_sum]
    have h3 : sumN len (fun k => kidN pr i k * (trF mk pr len n k).sz) = sumN len (fun k => sumN len (fun x => kidN pr i k * anc pr k x)) := sum_congr fun k hk => by
      unfold kidN
      by_cases h : i < k ∧ pr k = i
      · rw [if_pos h, trF_sz hmk hp len n k hk (by omega)]
        simp
      · rw [if_neg h]
        simp [sum_zero]
    rw [h3, sum_swap]
    have h4 : sumN len (fun x => anc pr i x) = sumN len (fun x => if i < x then anc pr i x else 0) + 1 := by
      refine sum_one h1 ?_ fun k hk hne => ?_
      · rw [anc_self, if_neg (by omega)]
      · by_cases h : i < k
        · rw [if_pos h]
        · rw [if_neg h, anc_lt pr (by omega)]
    rw [h4, sum_congr fun x hx => kid_sum hp i len x hx]
    omega
theorem trF_le {mk : Nat → List Tr → Tr} {pr : Nat → Nat} (hmk : ∀ i ks, (mk i ks).sz = 1 + Tr.szL ks) (hp : ∀ k, 0 < k → pr k < k) (len n i : Nat) (h1 : i < len) (h2 : len ≤ n + i) : (trF mk pr len n i).sz ≤ len := by
  rw [trF_sz hmk hp len n i h1 h2]
  exact sum_le fun k _ => anc_le pr i k
end Go.Proofs.YtkghpmpmcafhkaaGreatDoor
namespace Go.Proofs.YtkghpmpmcafhkaaGreatDoor
set_option maxHeartbeats 4000000
set_option maxRecDepth 20000
open Go.RowKit
def prN (p : Int) (k : Nat) : Nat := ((p % 18446744073709551616) % (k : Int)).toNat
theorem prN_lt (p : Int) {k : Nat} (h : 0 < k) : prN p k < k := by
  unfold prN
  have h1 := Int.emod_nonneg (p % 18446744073709551616) (show (k : Int) ≠ 0 by omega)
  have h2 := Int.emod_lt_of_pos (p % 18446744073709551616) (show (0 : Int) < (k : Int) by omega)
  omega
def pc0 : Pc := ⟨0, [], [], [], [], []⟩
def parF (ps : List Pc) (k : Nat) : Nat := prN (ps.getD k pc0).par k
theorem parF_lt (ps : List Pc) : ∀ k, 0 < k → parF ps k < k := fun _ h => prN_lt _ h
def atsF (o : Pc) : List (List (List UInt8)) := (List.range o.ats.length).map fun n => [o.sps.getD n [], (o.ats.getD n []).getD 0 [], (o.ats.getD n []).getD 1 []]
def mkE (ps : List Pc) (i : Nat) (ks : List Tr) : Tr := .node [(ps.getD i pc0).sp, (ps.getD i pc0).nm] (atsF (ps.getD i pc0)) ks (ps.getD i pc0).tx
def elemN (ps : List Pc) (n i : Nat) : Tr := trF (mkE ps) (parF ps) ps.length n i
theorem mkE_sz (ps : List Pc) (i : Nat) (ks : List Tr) : (mkE ps i ks).sz = 1 + Tr.szL ks := by unfold mkE; rw [Tr.sz]
end Go.Proofs.YtkghpmpmcafhkaaGreatDoor
namespace Go.Proofs.YtkghpmpmcafhkaaGreatDoor
set_option maxHeartbeats 4000000
set_option maxRecDepth 20000
open Go.RowKit
mutual
def Tr.cap (A L : Nat) : Tr → Prop
  | .node nm ats ks t => (∀ s ∈ nm, s.length ≤ L) ∧ ats.length ≤ A ∧ (∀ a ∈ ats, ∀ s ∈ a, s.length ≤ L) ∧ t.length ≤ L ∧ Tr.capL A L ks
def Tr.capL (A L : Nat) : List Tr → Prop
  | [] => True
  | k :: ks => k.cap A L ∧ Tr.capL A L ks
end
theorem capL_all {A L : Nat} : ∀ ks : List Tr, (∀ k ∈ ks, k.cap A L) → Tr.capL A L ks
  | [], _ => by unfold Tr.capL; trivial
  | k :: ks, h => by unfold Tr.capL; exact ⟨h k (by simp), capL_all ks fun x hx => h x (by simp [hx])⟩
mutual
theorem cap_ssz {A L : Nat} : ∀ x : Tr, x.cap A L → x.ssz L
  | .node nm ats ks t, h => by
    unfold Tr.cap at h
    unfold Tr.ssz
    exact ⟨h.1, h.2.2.1, h.2.2.2.1, capL_ssz ks h.2.2.2.2⟩
theorem capL_ssz {A L : Nat} : ∀ ks : List Tr, Tr.capL A L ks → Tr.sszL L ks
  | [], _ => by unfold Tr.sszL; trivial
  | k :: ks, h => by
    unfold Tr.capL at h
    unfold Tr.sszL
    exact ⟨cap_ssz k h.1, capL_ssz ks h.2⟩
end
mutual
theorem cap_nms {A L : Nat} : ∀ x : Tr, x.cap A L → x.nms.length ≤ x.sz * (A + 1)
  | .node nm ats ks t, h => by
    unfold Tr.cap at h
    rw [nms_head, List.length_cons, List.length_append, List.length_map, Tr.sz, Nat.add_mul, Nat.one_mul]
    have := capL_nms ks h.2.2.2.2
    have := h.2.1
    omega
theorem capL_nms {A L : Nat} : ∀ ks : List Tr, Tr.capL A L ks → (Tr.nmsL ks).length ≤ Tr.szL ks * (A + 1)
  | [], _ => by rw [Tr.nmsL]; simp
  | k :: ks, h => by
    unfold Tr.capL at h
    rw [Tr.nmsL, Tr.szL, List.length_append, Nat.add_mul]
    have := cap_nms k h.1
    have := capL_nms ks h.2
    omega
end
theorem getD_cap {L : Nat} {l : List (List UInt8)} (h : ∀ s ∈ l, s.length ≤ L) (i : Nat) : (l.getD i []).length ≤ L := by
  rw [List.getD_eq_getElem?_getD]
  cases e : l[i]? with
  | none => simp
  | some s => exact h s (List.mem_of_getElem? e)
theorem atT_cap {L : Nat} : ∀ (ats : List (List (List UInt8))), (∀ a ∈ ats, ∀ s ∈ a, s.length ≤ L) → (ats.flatMap atT).length ≤ ats.length * (7 * L + 8)
  | [], _ => by simp
  | a :: ats, h => by
    rw [List.flatMap_cons, List.length_append, List.length_cons, Nat.add_mul, Nat.one_mul]
    have h1 := atT_cap ats fun b hb => h b (by simp [hb])
    have h2 := getD_cap (h a (by simp)) 0
    have h3 := getD_cap (h a (by simp)) 1
    have h4 := escF_len true _ (a.getD 1 []) (Nat.le_refl _)
    have h5 : (atT a).length = 4 + (a.getD 0 []).length + (escF true (a.getD 1 [])).length := by
      unfold atT
      simp only [List.length_append, List.length_cons, List.length_nil]
      omega
    omega
mutual
theorem cap_wrt {A L : Nat} : ∀ x : Tr, x.cap A L → x.wrt.length ≤ x.sz * ((A + 2) * (7 * L + 8))
  | .node nm ats ks t, h => by
    unfold Tr.cap at h
    have h1 := getD_cap h.1 0
    have h2 := atT_cap ats h.2.2.1
    have h3 := escF_len false _ t (Nat.le_refl _)
    have h4 := capL_wrt ks h.2.2.2.2
    have h5 : ats.length * (7 * L + 8) ≤ A * (7 * L + 8) := Nat.mul_le_mul_right _ h.2.1
    have h6 := h.2.2.2.1
    rw [Tr.sz, Nat.add_mul, Nat.one_mul]
    rw [Nat.add_mul A 2] at h4 ⊢
    generalize Tr.szL ks * (A * (7 * L + 8) + 2 * (7 * L + 8)) = Z at *
    generalize A * (7 * L + 8) = Y at *
    generalize ats.length * (7 * L + 8) = X at *
    unfold Tr.wrt
    split
    · omega
    · split <;> simp only [List.length_append, List.length_cons, List.length_nil] <;> omega
theorem capL_wrt {A L : Nat} : ∀ ks : List Tr, Tr.capL A L ks → (Tr.wrtL ks).length ≤ Tr.szL ks * ((A + 2) * (7 * L + 8))
  | [], _ => by unfold Tr.wrtL; simp
  | k :: ks, h => by
    unfold Tr.capL at h
    rw [Tr.wrtL, Tr.szL, List.length_append, Nat.add_mul]
    have := cap_wrt k h.1
    have := capL_wrt ks h.2
    omega
end
mutual
theorem few_sm : ∀ x : Tr, x.few → x.sm
  | .node nm ats ks t, h => by
    unfold Tr.few at h
    unfold Tr.sm
    exact ⟨by omega, by omega, fewL_sm ks h.2.2⟩
theorem fewL_sm : ∀ ks : List Tr, Tr.fewL ks → Tr.smL ks
  | [], _ => by unfold Tr.smL; trivial
  | k :: ks, h => by
    unfold Tr.fewL at h
    unfold Tr.smL
    exact ⟨few_sm k h.1, fewL_sm ks h.2⟩
end
theorem cap_all {A L N : Nat} {x : Tr} (h : x.cap A L) (hs : x.sz ≤ N) (hN : N ≤ 100) (hL : L ≤ 500) (hA : A ≤ 900) (hm : N * ((A + 2) * (7 * L + 8)) ≤ 100000000) :
    x.ssz L ∧ x.shr ∧ x.few ∧ x.sm ∧ x.sz ≤ 1000 ∧ x.nms.length ≤ N * (A + 1) ∧ x.wrt.length ≤ 100000000 := by
  have h1 := Nat.le_trans (cap_nms x h) (Nat.mul_le_mul_right (A + 1) hs)
  have h2 := Nat.le_trans (cap_wrt x h) (Nat.mul_le_mul_right _ hs)
  have h3 : N * (A + 1) ≤ 100 * 901 := Nat.mul_le_mul hN (by omega)
  have hf := nms_few (show (90100 : Nat) ≤ 100000 by omega) x (Nat.le_trans h1 h3)
  exact ⟨cap_ssz x h, ssz_shr (by omega) x (cap_ssz x h), hf, few_sm x hf, by omega, h1, by omega⟩
theorem dd_four {n : Nat} (h : n < 10000) : (Lib.decDigits n).length ≤ 4 := by
  rw [Lib.decDigits]
  split
  · simp
  · rw [List.length_append, List.length_singleton, Lib.decDigits]
    split
    · simp
    · rw [List.length_append, List.length_singleton, Lib.decDigits]
      split
      · simp
      · rw [List.length_append, List.length_singleton, Lib.decDigits]
        split
        · simp
        · omega
theorem pref_five {i : Nat} (h : i < 9000) : (prefF i).length ≤ 5 := by
  unfold prefF
  have := dd_four (n := i + 1) (by omega)
  rw [List.length_cons]
  omega
theorem prefixed_cap {l : List (List UInt8)} {n : List (List UInt8)} {L : Nat} (hl : l.length < 9000) (h : ∀ s ∈ n, s.length ≤ L) : (prefixedF l n).length ≤ L + 6 := by
  unfold prefixedF
  have h1 := getD_cap h 1
  split
  · have := pref_five (i := l.idxOf (n.getD 0 [])) (by omega)
    rw [List.length_append, List.length_cons]
    omega
  · omega
theorem wriAts_cap {l : List (List UInt8)} {L : Nat} (hl : l.length < 9000) : ∀ (ats bts : List (List (List UInt8))), wriAts l ats = some bts → (∀ a ∈ ats, ∀ s ∈ a, s.length ≤ L) → bts.length = ats.length ∧ (∀ a ∈ bts, a.length = 2 ∧ ∀ s ∈ a, s.length ≤ L + 6)
  | [], bts, h, _ => by
    unfold wriAts at h
    cases h
    exact ⟨rfl, by simp⟩
  | a :: ats, bts, h, hL => by
    unfold wriAts at h
    split at h
    · cases h
    · obtain ⟨xs, hx, rfl⟩ := Option.map_eq_some_iff.1 h
      have ih := wriAts_cap hl ats xs hx fun b hb => hL b (by simp [hb])
      have h1 := prefixed_cap hl (hL a (by simp))
      have h2 := getD_cap (hL a (by simp)) 2
      refine ⟨by simp [ih.1], ?_⟩
      intro b hb
      rcases List.mem_cons.1 hb with rfl | hb
      · refine ⟨rfl, ?_⟩
        intro s hs
        simp only [List.mem_cons, List.not_mem_nil, or_false] at hs
        rcases hs with rfl | rfl <;> omega
      · exact ih.2 b hb
mutual
theorem wri_cap {l : List (List UInt8)} {A L : Nat} (hl : l.length < 9000) : ∀ (x y : Tr), x.wri l = some y → x.cap A L → y.cap A (L + 6) ∧ y.sz = x.sz ∧ y.ok 1
  | .node nm ats ks t, y, h, hc => by
    unfold Tr.cap at hc
    unfold Tr.wri at h
    split at h
    · split at h
      · rename_i hz
        cases h
        obtain ⟨h1, h2⟩ := hz
        have : ks = [] := List.length_eq_zero_iff.1 h2
        subst this
        unfold Tr.cap Tr.capL Tr.ok Tr.okL
        exact ⟨⟨by simp, by simp, by simp, by omega, trivial⟩, rfl, rfl, by simp, trivial⟩
      · cases h
    · split at h
      · cases h
      · obtain ⟨bts, hb, h⟩ := Option.bind_eq_some_iff.1 h
        obtain ⟨xs, hx, rfl⟩ := Option.map_eq_some_iff.1 h
        have h1 := wriAts_cap hl ats bts hb hc.2.2.1
        have h2 := wriL_cap hl ks xs hx hc.2.2.2.2
        have h3 := prefixed_cap hl hc.1
        unfold Tr.cap Tr.ok Tr.sz
        have := hc.2.1
        have := hc.2.2.2.1
        exact ⟨⟨by simpa using h3, by omega, fun a ha => (h1.2 a ha).2, by omega, h2.1⟩, by rw [h2.2.1], rfl, fun a ha => (h1.2 a ha).1, h2.2.2⟩
theorem wriL_cap {l : List (List UInt8)} {A L : Nat} (hl : l.length < 9000) : ∀ (ks xs : List Tr), Tr.wriL l ks = some xs → Tr.capL A L ks → Tr.capL A (L + 6) xs ∧ Tr.szL xs = Tr.szL ks ∧ Tr.okL 1 xs
  | [], xs, h, _ => by
    unfold Tr.wriL at h
    cases h
    unfold Tr.capL Tr.okL
    exact ⟨trivial, rfl, trivial⟩
  | k :: ks, xs, h, hc => by
    unfold Tr.capL at hc
    unfold Tr.wriL at h
    obtain ⟨x, hx, h⟩ := Option.bind_eq_some_iff.1 h
    obtain ⟨ys, hy, rfl⟩ := Option.map_eq_some_iff.1 h
    have h1 := wri_cap hl k x hx hc.1
    have h2 := wriL_cap hl ks ys hy hc.2
    unfold Tr.capL Tr.okL Tr.szL
    exact ⟨⟨h1.1, h2.1⟩, by rw [h1.2.1, h2.2.1], h1.2.2, h2.2.2⟩
end
theorem decl_cap {l : List (List UInt8)} {L : Nat} (hL : 11 ≤ L) (hl : l.length < 9000) (h : ∀ s ∈ l, s.length ≤ L) : ∀ a ∈ declOf l, a.length = 2 ∧ ∀ s ∈ a, s.length ≤ L := by
  intro a ha
  unfold declOf at ha
  obtain ⟨i, hi, rfl⟩ := List.mem_map.1 ha
  rw [List.mem_range] at hi
  refine ⟨rfl, ?_⟩
  intro s hs
  simp only [List.mem_cons, List.not_mem_nil, or_false] at hs
  rcases hs with rfl | rfl
  · have := pref_five (i := i) (by omega)
    have h5 : xmlnsL.length = 5 := rfl
    rw [List.length_append, List.length_cons]
    omega
  · exact getD_cap h i
mutual
theorem cap_le {A A' L : Nat} (h : A ≤ A') : ∀ x : Tr, x.cap A L → x.cap A' L
  | .node nm ats ks t, hx => by
    unfold Tr.cap at hx ⊢
    exact ⟨hx.1, Nat.le_trans hx.2.1 h, hx.2.2.1, hx.2.2.2.1, capL_le h ks hx.2.2.2.2⟩
theorem capL_le {A A' L : Nat} (h : A ≤ A') : ∀ ks : List Tr, Tr.capL A L ks → Tr.capL A' L ks
  | [], _ => by unfold Tr.capL; trivial
  | k :: ks, hx => by
    unfold Tr.capL at hx ⊢
    exact ⟨cap_le h k hx.1, capL_le h ks hx.2⟩
end
theorem with_cap {l : List (List UInt8)} {A B L : Nat} {y : Tr} (hL : 11 ≤ L) (hl : l.length < 9000) (hB : l.length ≤ B) (h : ∀ s ∈ l, s.length ≤ L) (hy : y.cap A L) (hk : y.ok 1) : (withDecl l y).cap (A + B) L ∧ (withDecl l y).ok 1 ∧ (withDecl l y).sz = y.sz := by
  obtain ⟨nm, ats, ks, t⟩ := y
  unfold withDecl
  unfold Tr.cap at hy ⊢
  unfold Tr.ok at hk ⊢
  have hd := decl_cap hL hl h
  refine ⟨⟨hy.1, ?_, ?_, hy.2.2.2.1, ?_⟩, ⟨hk.1, ?_, hk.2.2⟩, rfl⟩
  · rw [List.length_append, decl_len]; have := hy.2.1; omega
  · intro a ha
    rcases List.mem_append.1 ha with ha | ha
    · exact (hd a ha).2
    · exact hy.2.2.1 a ha
  · exact capL_le (Nat.le_add_right A B) ks hy.2.2.2.2
  · intro a ha
    rcases List.mem_append.1 ha with ha | ha
    · exact (hd a ha).1
    · exact hk.2.1 a ha
end Go.Proofs.YtkghpmpmcafhkaaGreatDoor
namespace Go.Proofs.YtkghpmpmcafhkaaGreatDoor
set_option maxHeartbeats 4000000
set_option maxRecDepth 20000
open Go.RowKit
def PcS (o : Pc) : Prop := o.nm.length ≤ 100 ∧ o.sp.length ≤ 100 ∧ o.tx.length ≤ 200 ∧ o.ats.length ≤ 20 ∧ o.sps.length ≤ 20 ∧ (∀ a ∈ o.ats, (a.getD 0 []).length ≤ 100 ∧ (a.getD 1 []).length ≤ 200) ∧ ∀ s ∈ o.sps, s.length ≤ 100
theorem big_no {ps : List Pc} (h : bigF ps = false) : 1 ≤ ps.length ∧ ps.length ≤ 30 ∧ ∀ o ∈ ps, PcS o := by
  unfold bigF at h
  simp only [Bool.or_eq_false_iff, decide_eq_false_iff_not, List.any_eq_false] at h
  refine ⟨by omega, by omega, fun o ho => ?_⟩
  have h1 := h.2 o ho
  unfold Pc.big at h1
  simp only [Bool.or_eq_true, decide_eq_true_eq, List.any_eq_true, not_or, not_exists, not_and] at h1
  refine ⟨by omega, by omega, by omega, by omega, by omega, fun a ha => ?_, fun s hs => ?_⟩
  · have := h1.2.1 a ha
    unfold atBig at this
    simp only [Bool.or_eq_true, decide_eq_true_eq, not_or] at this
    omega
  · have := h1.2.2 s hs
    unfold spBig at this
    simp only [decide_eq_true_eq] at this
    omega
theorem getD_pc {ps : List Pc} (h : ∀ o ∈ ps, PcS o) (i : Nat) : PcS (ps.getD i pc0) := by
  rw [List.getD_eq_getElem?_getD]
  cases e : ps[i]? with
  | none => exact ⟨by decide, by decide, by decide, by decide, by decide, by simp [pc0], by simp [pc0]⟩
  | some o => exact h o (List.mem_of_getElem? e)
theorem trF_all {Q : Tr → Prop} {mk : Nat → List Tr → Tr} {pr : Nat → Nat} {len : Nat} (h : ∀ i ks, (∀ k ∈ ks, Q k) → Q (mk i ks)) : ∀ n i, Q (trF mk pr len n i)
  | 0, i => h i [] (by simp)
  | n + 1, i => h i _ fun k hk => by
    obtain ⟨j, _, rfl⟩ := List.mem_map.1 hk
    exact trF_all h n j
theorem okL_all {k : Nat} : ∀ ks : List Tr, (∀ x ∈ ks, x.ok k) → Tr.okL k ks
  | [], _ => by unfold Tr.okL; trivial
  | x :: ks, h => by unfold Tr.okL; exact ⟨h x (by simp), okL_all ks fun y hy => h y (by simp [hy])⟩
theorem elem_cap {ps : List Pc} (hb : bigF ps = false) (n : Nat) (i : Nat) : (elemN ps n i).cap 20 200 ∧ (elemN ps n i).ok 2 := by
  have h := (big_no hb).2.2
  refine trF_all (Q := fun x => x.cap 20 200 ∧ x.ok 2) (fun i ks hk => ?_) n i
  obtain ⟨s1, s2, s3, s4, s5, s6, s7⟩ := getD_pc h i
  unfold mkE Tr.cap Tr.ok
  generalize ps.getD i pc0 = o at *
  refine ⟨⟨by simp; omega, by unfold atsF; simpa using s4, fun a ha s hs => ?_, by omega, capL_all ks fun k hx => (hk k hx).1⟩, rfl, fun a ha => ?_, okL_all ks fun k hx => (hk k hx).2⟩
  · unfold atsF at ha
    obtain ⟨m, hm, rfl⟩ := List.mem_map.1 ha
    rw [List.mem_range] at hm
    have h2 := s6 _ (List.getElem_mem hm)
    have h3 := getD_cap s7 m
    rw [List.getD_eq_getElem?_getD (l := o.ats), List.getElem?_eq_getElem hm, Option.getD_some] at hs
    simp only [List.mem_cons, List.not_mem_nil, or_false] at hs
    rcases hs with rfl | rfl | rfl <;> omega
  · unfold atsF at ha
    obtain ⟨m, hm, rfl⟩ := List.mem_map.1 ha
    rfl
theorem elem_sz {ps : List Pc} (hb : bigF ps = false) : (elemN ps ps.length 0).sz ≤ 30 :=
  Nat.le_trans (trF_le (mkE_sz ps) (parF_lt ps) _ _ _ (by have := (big_no hb).1; omega) (by omega)) (big_no hb).2.1
end Go.Proofs.YtkghpmpmcafhkaaGreatDoor
namespace Go.Proofs.YtkghpmpmcafhkaaGreatDoor
set_option maxHeartbeats 4000000
set_option maxRecDepth 20000
open Go.RowKit
mutual
def TrX (w : World) (P : Nat → Prop) : Tr → List Value → Prop
  | .node nm ats ks t, cs => ∃ pa ca pk ck css, cs = strs nm ++ [.slice pa ats.length ca, .slice pk ks.length ck, .string (bs t)] ∧
      (ats.length ≤ ca ∧ ca ≤ maxLen ∧ Rd w pa (acells ats) ∧ (acells ats ≠ [] → ∀ a, pa = some a → P a.block)) ∧
      (ks.length ≤ ck ∧ ck ≤ maxLen ∧ Rd w pk css.flatten ∧ ∀ a, pk = some a → P a.block) ∧ TrXL w P ks css
def TrXL (w : World) (P : Nat → Prop) : List Tr → List (List Value) → Prop
  | [], css => css = []
  | k :: ks, css => ∃ c cs, css = c :: cs ∧ TrX w P k c ∧ TrXL w P ks cs
end
theorem Rd.keepX {w w' : World} {p : Option Addr} {xs : List Value} (h : Rd w p xs) {P : Nat → Prop} (hP : xs ≠ [] → ∀ a, p = some a → P a.block) (hk : ∀ a v, P a.block → w.cell? a = some v → w'.cell? a = some v) : Rd w' p xs := by
  rcases h with h | ⟨b, off, hp, hc⟩
  · exact .inl h
  · refine .inr ⟨b, off, hp, fun i u hu => hk ⟨b, off + i, none⟩ _ (show P b from hP ?_ ⟨b, off, none⟩ hp) (hc i u hu)⟩
    rintro rfl
    simp at hu
mutual
theorem TrX.keepP {w w' : World} {P : Nat → Prop} (hk : ∀ a v, P a.block → w.cell? a = some v → w'.cell? a = some v) : ∀ (x : Tr) (cs : List Value), TrX w P x cs → TrX w' P x cs
  | .node nm ats ks t, cs, h => by
    unfold TrX at h ⊢
    obtain ⟨pa, ca, pk, ck, css, h1, h2, h3, h4⟩ := h
    exact ⟨pa, ca, pk, ck, css, h1, ⟨h2.1, h2.2.1, h2.2.2.1.keepX h2.2.2.2 hk, h2.2.2.2⟩, ⟨h3.1, h3.2.1, h3.2.2.1.keepP h3.2.2.2 hk, h3.2.2.2⟩, TrXL.keepP hk ks css h4⟩
theorem TrXL.keepP {w w' : World} {P : Nat → Prop} (hk : ∀ a v, P a.block → w.cell? a = some v → w'.cell? a = some v) : ∀ (xs : List Tr) (css : List (List Value)), TrXL w P xs css → TrXL w' P xs css
  | [], css, h => by unfold TrXL at h ⊢; exact h
  | x :: xs, css, h => by
    unfold TrXL at h ⊢
    obtain ⟨c, cs, h1, h2, h3⟩ := h
    exact ⟨c, cs, h1, TrX.keepP hk x c h2, TrXL.keepP hk xs cs h3⟩
end
mutual
theorem TrX.imp {w : World} {P Q : Nat → Prop} (hk : ∀ b, P b → Q b) : ∀ (x : Tr) (cs : List Value), TrX w P x cs → TrX w Q x cs
  | .node nm ats ks t, cs, h => by
    unfold TrX at h ⊢
    obtain ⟨pa, ca, pk, ck, css, h1, h2, h3, h4⟩ := h
    exact ⟨pa, ca, pk, ck, css, h1, ⟨h2.1, h2.2.1, h2.2.2.1, fun e a ha => hk _ (h2.2.2.2 e a ha)⟩, ⟨h3.1, h3.2.1, h3.2.2.1, fun a ha => hk _ (h3.2.2.2 a ha)⟩, TrXL.imp hk ks css h4⟩
theorem TrXL.imp {w : World} {P Q : Nat → Prop} (hk : ∀ b, P b → Q b) : ∀ (xs : List Tr) (css : List (List Value)), TrXL w P xs css → TrXL w Q xs css
  | [], css, h => by unfold TrXL at h ⊢; exact h
  | x :: xs, css, h => by
    unfold TrXL at h ⊢
    obtain ⟨c, cs, h1, h2, h3⟩ := h
    exact ⟨c, cs, h1, TrX.imp hk x c h2, TrXL.imp hk xs cs h3⟩
end
mutual
theorem TrX.plain {w : World} {P : Nat → Prop} : ∀ (x : Tr) (cs : List Value), TrX w P x cs → TrC w (fun _ => True) x cs
  | .node nm ats ks t, cs, h => by
    unfold TrX at h
    unfold TrC
    obtain ⟨pa, ca, pk, ck, css, h1, h2, h3, h4⟩ := h
    exact ⟨pa, ca, pk, ck, css, h1, ⟨h2.1, h2.2.1, h2.2.2.1, fun _ _ => trivial⟩, ⟨h3.1, h3.2.1, h3.2.2.1, fun _ _ => trivial⟩, TrXL.plain ks css h4⟩
theorem TrXL.plain {w : World} {P : Nat → Prop} : ∀ (xs : List Tr) (css : List (List Value)), TrXL w P xs css → TrL w (fun _ => True) xs css
  | [], css, h => by unfold TrXL at h; unfold TrL; exact h
  | x :: xs, css, h => by
    unfold TrXL at h
    unfold TrL
    obtain ⟨c, cs, h1, h2, h3⟩ := h
    exact ⟨c, cs, h1, TrX.plain x c h2, TrXL.plain xs cs h3⟩
end
theorem TrX.below {w w' : World} {P : Nat → Prop} {x : Tr} {cs : List Value} (h : TrX w P x cs) (hb : Below w.heap.size w w') : TrX w' P x cs := TrX.keepP (fun a v _ hv => Below.keeps hb a v hv) x cs h
theorem TrXL.below {w w' : World} {P : Nat → Prop} {xs : List Tr} {css : List (List Value)} (h : TrXL w P xs css) (hb : Below w.heap.size w w') : TrXL w' P xs css := TrXL.keepP (fun a v _ hv => Below.keeps hb a v hv) xs css h
theorem TrX.len {w : World} {P : Nat → Prop} {x : Tr} {cs : List Value} (h : TrX w P x cs) : cs.length = x.nm.length + 3 := (TrX.plain x cs h).len
theorem TrX.one {w : World} {P : Nat → Prop} {x : Tr} {cs : List Value} (h : TrX w P x cs) : ∀ u ∈ cs, u.oneCell' = true := (TrX.plain x cs h).one
theorem TrXL.app {w : World} {P : Nat → Prop} : ∀ {xs ys : List Tr} {css dss : List (List Value)}, TrXL w P xs css → TrXL w P ys dss → TrXL w P (xs ++ ys) (css ++ dss)
  | [], ys, css, dss, h, h' => by unfold TrXL at h; rw [h]; exact h'
  | x :: xs, ys, css, dss, h, h' => by
    unfold TrXL at h
    obtain ⟨c, cs, rfl, h2, h3⟩ := h
    rw [List.cons_append, List.cons_append]
    unfold TrXL
    exact ⟨c, cs ++ dss, rfl, h2, TrXL.app h3 h'⟩
theorem TrXL.one {w : World} {P : Nat → Prop} {x : Tr} {c : List Value} (h : TrX w P x c) : TrXL w P [x] [c] := by
  unfold TrXL
  exact ⟨c, [], rfl, h, by unfold TrXL; rfl⟩
theorem TrX.grown {q : Option Nat} {w w' : World} {P : Nat → Prop} {x : Tr} {cs : List Value} (h : TrX w P x cs) (k : w.grownBy w' q) (hP : ∀ b, P b → q ≠ some b) : TrX w' P x cs :=
  TrX.keepP (fun a v hp hc => cell_grown k (hP _ hp) hc) x cs h
theorem TrXL.grown {q : Option Nat} {w w' : World} {P : Nat → Prop} {x : List Tr} {cs : List (List Value)} (h : TrXL w P x cs) (k : w.grownBy w' q) (hP : ∀ b, P b → q ≠ some b) : TrXL w' P x cs :=
  TrXL.keepP (fun a v hp hc => cell_grown k (hP _ hp) hc) x cs h
theorem TrXL.only {g : Nat} {w w' : World} {P : Nat → Prop} {x : List Tr} {cs : List (List Value)} (h : TrXL w P x cs) (k : Only g w w') (hP : ∀ b, P b → b ≠ g) : TrXL w' P x cs :=
  TrXL.keepP (fun a v hp hc => (World.cell?_of_block (k.block a.block (hP _ hp))).trans hc) x cs h
theorem rT_trxl {ja j base size : Nat} {e : TypeId} {v : Value} {n : Nat} {w w' : World} {P : Nat → Prop} {x : List Tr} {cs : List (List Value)} (h : rT ja base size e v n j w w') (ht : TrXL w P x cs) (hP : ∀ b, P b → v.ownBlock ≠ some b) : TrXL w' P x cs := by
  unfold rT at h
  split at h
  · exact ht.grown h.2 hP
  · exact ht.below h
theorem rT_trx {ja j base size : Nat} {e : TypeId} {v : Value} {n : Nat} {w w' : World} {P : Nat → Prop} {x : Tr} {cs : List Value} (h : rT ja base size e v n j w w') (ht : TrX w P x cs) (hP : ∀ b, P b → v.ownBlock ≠ some b) : TrX w' P x cs := by
  unfold rT at h
  split at h
  · exact ht.grown h.2 hP
  · exact ht.below h
def BtL (L lo hi : Nat) (o : Option Nat) (b : Nat) : Prop := b < L ∨ Bt lo hi o b
def TrRL (L : Nat) (x : Tr) (w : World) (e : Ending) (w' : World) : Prop :=
  ∃ cs, e = .returned (.agg cs.toArray) ∧ TrX w' (BtL L w.heap.size w'.heap.size none) x cs ∧ Below w.heap.size w w'
def PKidL (cv : Value → Prop) (L B0 : Nat) (x : Tr) : Part :=
  ⟨cv, fun w v => ∃ cs B, v = .agg cs.toArray ∧ TrX w (BtL L B0 B none) x cs ∧ B ≤ w.heap.size⟩
def POneL (L B0 : Nat) (t : TypeId) (x : Tr) : Part :=
  ⟨fun v => ∃ g, v = .slice (some ⟨g, 0, none⟩) 1 1, fun w v => ∀ g, v = .slice (some ⟨g, 0, none⟩) 1 1 → B0 ≤ g ∧ ∃ cs B, Blk w g t cs.toArray ∧ TrX w (BtL L B0 B none) x cs ∧ B ≤ w.heap.size⟩
def PRowL (L base size : Nat) (t : TypeId) (n : Nat) (xs : List Tr) (css : List (List Value)) (x : Tr) : Part :=
  ⟨fun v => ∃ p cap, v = .slice p n cap, fun w v => ∃ cs, w.ownsRow base t size v n (css ++ [cs]).flatten ∧ TrXL w (BtL L base w.heap.size v.ownBlock) (xs ++ [x]) (css ++ [cs])⟩
theorem PKidL_stays {cv : Value → Prop} {L B0 ja j base size : Nat} {e : TypeId} {v0 : Value} {n : Nat} {x : Tr} {w w' : World} {v : Value} (hR : rT ja base size e v0 n j w w') (hv : ∀ g, v0.ownBlock = some g → L ≤ g ∧ g < B0) (h : (PKidL cv L B0 x).fact w v) : (PKidL cv L B0 x).fact w' v := by
  obtain ⟨cs, B, h1, h2, h3⟩ := h
  exact ⟨cs, B, h1, rT_trx hR h2 fun b hb e => by
    have := hv b e
    rcases hb with hb | hb
    · omega
    · have := hb.1; omega, Nat.le_trans h3 (rT_size hR)⟩
theorem POneL_stays {L B0 ja j base size : Nat} {e t : TypeId} {v0 : Value} {n : Nat} {x : Tr} {w w' : World} {v : Value} (hR : rT ja base size e v0 n j w w') (hv : ∀ g, v0.ownBlock = some g → L ≤ g ∧ g < B0) (h : (POneL L B0 t x).fact w v) : (POneL L B0 t x).fact w' v := fun g hg => by
  obtain ⟨h1, cs, B, h2, h3, h4⟩ := h g hg
  exact ⟨h1, cs, B, rT_blk hR h2 fun e => by (have := hv g e; omega), rT_trx hR h3 fun b hb e => by
    have := hv b e
    rcases hb with hb | hb
    · omega
    · have := hb.1; omega, Nat.le_trans h4 (rT_size hR)⟩
theorem prow_stepL {L B0 base size : Nat} {t : TypeId} {v0 v : Value} {n : Nat} {xs : List Tr} {css : List (List Value)} {x : Tr} {w w' : World} {cs : List Value} {B : Nat}
    (hg : w.grownBy w' v0.ownBlock) (hat : v.ownBlock = v0.ownBlock ∨ v.ownBlock = some w.heap.size) (hv : ∀ g, v0.ownBlock = some g → L ≤ g ∧ g < B0) (hB0 : base ≤ B0) (hs0 : B0 ≤ w.heap.size) (hLb : L ≤ base)
    (hl : TrXL w (BtL L base B0 v0.ownBlock) xs css) (hk : TrX w (BtL L B0 B none) x cs) (hB : B ≤ w.heap.size)
    (ho : w'.ownsRow base t size v n (css ++ [cs]).flatten) : (PRowL L base size t n xs css x).fact w' v := by
  have hsz := hg.size
  have h1 := TrXL.imp (Q := BtL L base w'.heap.size v.ownBlock) (fun b hb => by
    rcases hb with hb | hb
    · exact .inl hb
    · refine .inr ⟨hb.1, by have := hb.2.1; omega, ?_⟩
      rcases hat with h | h
      · rw [h]; exact hb.2.2
      · rw [h]; intro e; cases e; have := hb.2.1; omega) xs css (hl.grown hg fun b hb => by
    rcases hb with hb | hb
    · intro e; have := hv b e; omega
    · exact hb.2.2)
  have h2 := TrX.imp (Q := BtL L base w'.heap.size v.ownBlock) (fun b hb => by
    rcases hb with hb | hb
    · exact .inl hb
    · refine .inr ⟨by have := hb.1; omega, by have := hb.2.1; omega, ?_⟩
      rcases hat with h | h
      · rw [h]; intro e; have := hv b e; have := hb.1; omega
      · rw [h]; intro e; cases e; have := hb.2.1; omega) x cs (hk.grown hg (fun b hb e => by
    have := hv b e
    rcases hb with hb | hb
    · omega
    · have := hb.1; omega))
  exact ⟨cs, ho, TrXL.app h1 (TrXL.one h2)⟩
end Go.Proofs.YtkghpmpmcafhkaaGreatDoor
