/-
  RefNum: the walk of liaisonref03.ToNumber.
  FloatB: eight bytes' float: the document's.
  RefSplit: the walks of liaisonref03.Split and Same.
-/
import Derived.Test.YtjklcbdlfmmllaaGreatDoorYI
import Derived.Test.YtjklcbdlfmmllaaGreatDoorYD
import Derived.IntWalk
namespace Go.Proofs.YtjklcbdlfmmllaaGreatDoor
open Go.RowKit

set_option maxRecDepth 20000 in
set_option maxHeartbeats 1000000 in
theorem reftonumber_any (v : Value) (l : List UInt8) (w : World) (hv : Byt w v l) :
    Calls Tryz.prog 43 #[v] w fun e w' => e = .returned (.tuple #[.int .i64 (toNumF l : Int), .int .i64 (toNumE l : Int)]) ∧ Below w.heap.size w w' := by
  obtain ⟨p, cap, rfl, h1, h2, h3⟩ := hv
  unfold maxLen at h2
  have H3 := Lib.hid h3
  clear h3
  have hcase : l = [] ∨ ∃ c m, l = c :: m := by cases l <;> simp
  have hgt : decide (9223372036854775807 < valB l) = true ∨ decide (9223372036854775807 < valB l) = false := by
    cases decide (9223372036854775807 < valB l) <;> simp
  rcases hcase with h0 | ⟨c, m, hcm⟩
  · have HF := Lib.hid (show toNumF l = valB l ∧ toNumE l = 0 by subst h0; exact ⟨rfl, rfl⟩)
    have hl8 : l.length ≤ 8 := by subst h0; simp
    have hl63 : valB l ≤ 9223372036854775807 := by subst h0; rw [valB_nil]; omega
    have dg : decide ((9223372036854775807 : Int) < (valB l : Int)) = false := by simp; omega
    have d1 : decide ((0 : Int) < (l.length : Int)) = false := by subst h0; rfl
    have d1' : decide (0 < l.length) = false := by subst h0; rfl
    have d8 : decide ((8 : Int) < (l.length : Int)) = false := by subst h0; rfl
    have d8' : decide (8 < l.length) = false := by subst h0; rfl
    clear h0 hgt
    go_enter Tryz.func43, Tryz.ntmps43
    go_wp2_with fail
    go_loop [4, 21] (fun n i => ∃ k : Nat, k ≤ l.length ∧ i = .int .i64 k ∧ n = .int .u64 (valB (l.take k) : Int)) (fun _ i => l.length - (intOf i).toNat)
    case atStart => exact ⟨0, by omega, rfl, rfl⟩
    case round =>
      obtain ⟨k, hk, rfl, rfl⟩ := hrel
      have hmax := valB_8b l hl8
      by_cases hlt : k < l.length
      · obtain ⟨b2, off2, hp2, hck⟩ := byt_cell H3.out hlt
        have hpre := valB_pre l hl8 k hlt
        have HT := Lib.hid (valB_take l k hlt)
        have hc8 := l[k].toNat_lt
        first | (cases hp2; skip) | (subst hp2; skip)
        clear dg
        generalize valB (l.take k) = u at *
        generalize l[k].toNat = x at *
        go_wp2_with fail
        go_round
        case rel => exact ⟨k + 1, by omega, by go_num, by rw [HT.out]; go_num⟩
        case measure => simp [intOf]; omega
      · obtain rfl : k = l.length := by omega
        rw [List.take_of_length_le (Nat.le_refl _)]
        go_wp2_with fail
        go_ret2
        rw [HF.out.1, HF.out.2]
        exact ⟨rfl, Below.refl _ _⟩
  · have hpos : 0 < l.length := by rw [hcm]; simp
    obtain ⟨b, off, rfl, hc⟩ := byt_cell H3.out hpos
    have hc0 : w.cell? ⟨b, off, none⟩ = some (.int .u8 (c.toNat : Int)) := by
      have : l[0] = c := by simp [hcm]
      rw [← this]; exact hc
    clear hc
    have d1 : decide ((0 : Int) < (l.length : Int)) = true := by simp; omega
    have d1' : decide (0 < l.length) = true := by simp; omega
    have hc256 := c.toNat_lt
    by_cases hz : c.toNat = 0
    · have dz : ((c.toNat : Int) == 0) = true := by simp [hz]
      have HE := Lib.hid (show toNumF l = 0 ∧ toNumE l = 4 by
        have : toNumE l = 4 := by unfold toNumE; rw [hcm, if_pos]; rw [List.head?_cons]; congr 1; exact UInt8.toNat_inj.1 hz
        refine ⟨?_, this⟩
        unfold toNumF; rw [this]; rfl)
      clear hcm hz hgt
      go_enter Tryz.func43, Tryz.ntmps43
      go_wp2_with fail
      go_ret2
      rw [HE.out.1, HE.out.2]
      exact ⟨rfl, Below.refl _ _⟩
    · have dz : ((c.toNat : Int) == 0) = false := by simp [hz]
      have hhead : ¬ l.head? = some 0 := by
        rw [hcm, List.head?_cons]; intro e; apply hz; rw [Option.some.inj e]; rfl
      by_cases h8 : 8 < l.length
      · have d8 : decide ((8 : Int) < (l.length : Int)) = true := by simp; omega
        have d8' : decide (8 < l.length) = true := by simp; omega
        have HE := Lib.hid (show toNumF l = 0 ∧ toNumE l = 1 by
          have : toNumE l = 1 := by unfold toNumE; rw [if_neg hhead, if_pos (.inl h8)]
          refine ⟨?_, this⟩
          unfold toNumF; rw [this]; rfl)
        clear hcm hz hhead hgt
        go_enter Tryz.func43, Tryz.ntmps43
        go_wp2_with fail
        go_ret2
        rw [HE.out.1, HE.out.2]
        exact ⟨rfl, Below.refl _ _⟩
      · have d8 : decide ((8 : Int) < (l.length : Int)) = false := by simp; omega
        have d8' : decide (8 < l.length) = false := by simp; omega
        have hl8 : l.length ≤ 8 := by omega
        by_cases hg : 9223372036854775807 < valB l
        · have dg : decide ((9223372036854775807 : Int) < (valB l : Int)) = true := by simp; omega
          have HF := Lib.hid (show toNumF l = 0 ∧ toNumE l = 1 by
            have : toNumE l = 1 := by
              unfold toNumE; rw [if_neg hhead, if_pos]
              refine .inr ⟨?_, hg⟩
              have := valB_7 l
              omega
            refine ⟨?_, this⟩
            unfold toNumF; rw [this]; rfl)
          clear hcm hz hhead hgt
          go_enter Tryz.func43, Tryz.ntmps43
          go_wp2_with fail
          go_loop [4, 21] (fun n i => ∃ k : Nat, k ≤ l.length ∧ i = .int .i64 k ∧ n = .int .u64 (valB (l.take k) : Int)) (fun _ i => l.length - (intOf i).toNat)
          case atStart => exact ⟨0, by omega, rfl, rfl⟩
          case round =>
            obtain ⟨k, hk, rfl, rfl⟩ := hrel
            have hmax := valB_8b l hl8
            by_cases hlt : k < l.length
            · obtain ⟨b2, off2, hp2, hck⟩ := byt_cell H3.out hlt
              have hpre := valB_pre l hl8 k hlt
              have HT := Lib.hid (valB_take l k hlt)
              have hc8 := l[k].toNat_lt
              first | (cases hp2; skip) | (subst hp2; skip)
              clear dg
              generalize valB (l.take k) = u at *
              generalize l[k].toNat = x at *
              go_wp2_with fail
              go_round
              case rel => exact ⟨k + 1, by omega, by go_num, by rw [HT.out]; go_num⟩
              case measure => simp [intOf]; omega
            · obtain rfl : k = l.length := by omega
              rw [List.take_of_length_le (Nat.le_refl _)]
              go_wp2_with fail
              go_ret2
              rw [HF.out.1, HF.out.2]
              exact ⟨rfl, Below.refl _ _⟩
        · have dg : decide ((9223372036854775807 : Int) < (valB l : Int)) = false := by simp; omega
          have HF := Lib.hid (show toNumF l = valB l ∧ toNumE l = 0 by
            have : toNumE l = 0 := by
              unfold toNumE; rw [if_neg hhead, if_neg]
              rintro (h | ⟨_, h⟩)
              · exact h8 h
              · exact hg h
            refine ⟨?_, this⟩
            unfold toNumF; rw [this]; rfl)
          have hl63 : valB l ≤ 9223372036854775807 := by omega
          clear hcm hz hhead hgt
          go_enter Tryz.func43, Tryz.ntmps43
          go_wp2_with fail
          go_loop [4, 21] (fun n i => ∃ k : Nat, k ≤ l.length ∧ i = .int .i64 k ∧ n = .int .u64 (valB (l.take k) : Int)) (fun _ i => l.length - (intOf i).toNat)
          case atStart => exact ⟨0, by omega, rfl, rfl⟩
          case round =>
            obtain ⟨k, hk, rfl, rfl⟩ := hrel
            have hmax := valB_8b l hl8
            by_cases hlt : k < l.length
            · obtain ⟨b2, off2, hp2, hck⟩ := byt_cell H3.out hlt
              have hpre := valB_pre l hl8 k hlt
              have HT := Lib.hid (valB_take l k hlt)
              have hc8 := l[k].toNat_lt
              first | (cases hp2; skip) | (subst hp2; skip)
              clear dg
              generalize valB (l.take k) = u at *
              generalize l[k].toNat = x at *
              go_wp2_with fail
              go_round
              case rel => exact ⟨k + 1, by omega, by go_num, by rw [HT.out]; go_num⟩
              case measure => simp [intOf]; omega
            · obtain rfl : k = l.length := by omega
              rw [List.take_of_length_le (Nat.le_refl _)]
              go_wp2_with fail
              go_ret2
              rw [HF.out.1, HF.out.2]
              exact ⟨rfl, Below.refl _ _⟩
end Go.Proofs.YtjklcbdlfmmllaaGreatDoor

namespace Go.Proofs.YtjklcbdlfmmllaaGreatDoor
open Go.RowKit

set_option maxRecDepth 20000 in
set_option maxHeartbeats 1000000 in
theorem reftofloat_any (v : Value) (l : List UInt8) (w : World) (hv : Byt w v l) :
    Calls Tryz.prog 42 #[v] w fun e w' => e = .returned (.tuple #[.float .f64 (toFltF l), .int .i64 (toFltE l : Int)]) ∧ Below w.heap.size w w' := by
  obtain ⟨p, cap, rfl, h1, h2, h3⟩ := hv
  unfold maxLen at h2
  have H3 := Lib.hid h3
  clear h3
  by_cases h8 : l.length = 8
  · have d8 : ((l.length : Int) != 8) = false := by simp; omega
    have hl8 : l.length ≤ 8 := by omega
    have hmax := valB_8b l hl8
    have HE0 := Lib.hid (show toFltE l = (if plainN (valB l) = valB l then 0 else 4) ∧ toFltF l = (if plainN (valB l) = valB l then valB l else 0) by
      unfold toFltE toFltF; simp [h8])
    clear h8
    go_enter Tryz.func42, Tryz.ntmps42
    go_wp2_with fail
    go_loop [4, 13] (fun n i => ∃ k : Nat, k ≤ l.length ∧ i = .int .i64 k ∧ n = .int .u64 (valB (l.take k) : Int)) (fun _ i => l.length - (intOf i).toNat)
    case atStart => exact ⟨0, by omega, rfl, rfl⟩
    case round =>
      obtain ⟨k, hk, rfl, rfl⟩ := hrel
      by_cases hlt : k < l.length
      · obtain ⟨b2, off2, hp2, hck⟩ := byt_cell H3.out hlt
        have hpre := valB_pre l hl8 k hlt
        have HT := Lib.hid (valB_take l k hlt)
        have hc8 := l[k].toNat_lt
        first | (cases hp2; skip) | (subst hp2; skip)
        generalize valB (l.take k) = u at *
        generalize l[k].toNat = x at *
        go_wp2_with fail
        go_round
        case rel => exact ⟨k + 1, by omega, by go_num, by rw [HT.out]; go_num⟩
        case measure => simp [intOf]; omega
      · obtain rfl : k = l.length := by omega
        rw [List.take_of_length_le (Nat.le_refl _)]
        generalize valB l = u at *
        have h1 := run_frombits u
        go_wp2_with fail
        refine (refbits_any u hmax w).mono ?_
        rintro e w2 ⟨rfl, hb2⟩
        by_cases hp : plainN u = u
        · rw [hp]
          have dq : ((u : Int) != (u : Int)) = false := by simp
          rw [if_pos hp, if_pos hp] at HE0
          clear hp
          go_wp2_with fail
          go_ret2
          rw [HE0.out.1, HE0.out.2]
          exact ⟨rfl, hb2⟩
        · have dq : ((plainN u : Int) != (u : Int)) = true := by simp; omega
          rw [if_neg hp, if_neg hp] at HE0
          clear hp
          go_wp2_with fail
          go_ret2
          rw [HE0.out.1, HE0.out.2]
          exact ⟨rfl, hb2⟩
  · have d8 : ((l.length : Int) != 8) = true := by simp; omega
    have HE0 := Lib.hid (show toFltE l = 4 ∧ toFltF l = 0 by unfold toFltE toFltF; simp [h8])
    clear h8
    go_enter Tryz.func42, Tryz.ntmps42
    go_wp2_with fail
    go_ret2
    rw [HE0.out.1, HE0.out.2]
    exact ⟨rfl, Below.refl _ _⟩
end Go.Proofs.YtjklcbdlfmmllaaGreatDoor

namespace Go.Proofs.YtjklcbdlfmmllaaGreatDoor
open Go.RowKit
attribute [local go_sem] bs_toList

theorem getD_drop (b : List UInt8) (k i : Nat) (h : k + i < b.length) : (b.drop k).getD i 0 = b[k + i] := by
  rw [List.getD, List.getElem?_drop, List.getElem?_eq_getElem h]; rfl
def RefSplitR (w : World) (b : List UInt8) (e : Ending) (w' : World) : Prop :=
  ∃ v, e = .returned (.tuple #[v, .int .i64 (splitE b : Int)]) ∧ FldL w' v (splitL b) ∧ Below w.heap.size w w'
theorem refsplit_bad {w w' : World} {b : List UInt8} (n : Nat) (h : (splitF 0 0 b).2 = some n) (hb : Below w.heap.size w w') : RefSplitR w b (.returned (.tuple #[.slice none 0 0, .int .i64 ((n + 1 : Nat) : Int)])) w' := by
  have HN : splitE b = n + 1 ∧ splitL b = [] := by unfold splitE splitL; rw [h]; exact ⟨rfl, rfl⟩
  refine ⟨_, by rw [HN.1], ?_, hb⟩
  rw [HN.2]
  exact ⟨none, 0, [], rfl, Nat.le_refl _, by unfold maxLen; omega, rfl, .inl rfl, by simp⟩
set_option maxRecDepth 20000 in
set_option maxHeartbeats 4000000 in
theorem refsplit_any (w : World) (v : Value) (b : List UInt8) (hy : Byt w v b) (hbl : b.length ≤ 1099511627776) :
    Calls Tryz.prog 41 #[v] w (RefSplitR w b) := by
  have HY := Lib.hid hy
  obtain ⟨p, c, rfl, k1, k2, k3⟩ := hy
  obtain ⟨i0, hi, hz0, hz1, hz2⟩ := info_parts fldInfo
  obtain ⟨i1, hi', hz0', hz1', hz2'⟩ := info_parts byt8Info
  have K3 := Lib.hid k3
  unfold maxLen at k2
  clear k3
  go_enter Tryz.func41, Tryz.ntmps41
  go_wp2_with fail
  go_loopw [4, 5, 6] (fun out l a wr => ∃ (fs : List (Int × List UInt8)) (at_ : Nat) (last : Int), at_ ≤ b.length ∧ fs.length ≤ 16 ∧ (0 ≤ last ∧ last ≤ 255) ∧ l = .int .i64 last ∧ a = .int .i64 (at_ : Int) ∧
    splitF 0 0 b = (fs ++ (splitF last fs.length (b.drop at_)).1, (splitF last fs.length (b.drop at_)).2) ∧ OutF wr w.heap.size out fs ∧ Below w.heap.size w wr) (fun _ _ a _ => b.length - (intOf a).toNat)
  case atStart =>
    have ho := World.ownsRow_lit (base := w.heap.size) (e := 54) (size := 2) w #[] 0 (Nat.le_refl _) (by unfold maxLen; omega) rfl
    exact ⟨[], 0, 0, Nat.zero_le _, by simp, by decide, rfl, rfl, rfl, ⟨[], rfl, by simpa [fcells] using ho, by simp⟩, below_alloc1 _ _⟩
  case round =>
    obtain ⟨fs, at_, last, hat, hfl, hlast, rfl, rfl, heq, hout, hbw⟩ := hrel
    have HEQ := Lib.hid heq
    have HO := Lib.hid hout
    clear heq hout
    have hdl : (b.drop at_).length = b.length - at_ := List.length_drop
    by_cases hlt : at_ < b.length
    · have d1 : decide ((at_ : Int) < (b.length : Int)) = true := by simp; omega
      have d1' : decide (at_ < b.length) = true := by simp; omega
      have hne : b.drop at_ ≠ [] := by intro e; rw [e] at hdl; simp at hdl; omega
      have HNE := Lib.hid hne
      clear hne
      by_cases h3 : b.length - at_ < 3
      · have hfb := splitF_bad HNE.out (show fieldBad last fs.length (b.drop at_) = some 1 by unfold fieldBad; rw [if_pos (by omega)])
        have HF := Lib.hid (show (splitF 0 0 b).2 = some 1 by rw [HEQ.out, hfb])
        have d2 : decide ((b.length : Int) - (at_ : Int) < 3) = true := by simp; omega
        clear hfb hdl
        go_wp2_with fail
        go_ret2
        exact refsplit_bad 1 HF.out hbw
      · have d2 : decide ((b.length : Int) - (at_ : Int) < 3) = false := by simp; omega
        obtain ⟨bb, off, hp, hcell⟩ := byt_cell K3.out (k := at_) (by omega)
        obtain ⟨bb1, off1, hp1, hcell1⟩ := byt_cell K3.out (k := at_ + 1) (by omega)
        obtain ⟨bb2, off2, hp2, hcell2⟩ := byt_cell K3.out (k := at_ + 2) (by omega)
        subst hp
        cases hp1
        cases hp2
        have c0 := Below.keeps hbw _ _ hcell
        have c1 := Below.keeps hbw _ _ hcell1
        have c2 := Below.keeps hbw _ _ hcell2
        rw [← Nat.add_assoc] at c1 c2
        have ht : tagOf (b.drop at_) = (b[at_].toNat : Int) := by
          unfold tagOf; rw [getD_drop b at_ 0 (by omega)]; rfl
        have hs : sizeOfF (b.drop at_) = 256 * b[at_ + 1].toNat + b[at_ + 2].toNat := by
          unfold sizeOfF; rw [getD_drop b at_ 1 (by omega), getD_drop b at_ 2 (by omega)]
        have y0 := b[at_].toNat_lt
        have y1 := b[at_ + 1].toNat_lt
        have y2 := b[at_ + 2].toNat_lt
        have HT := Lib.hid ht
        have HS := Lib.hid hs
        clear hcell hcell1 hcell2 ht hs
        generalize b[at_].toNat = n0 at *
        generalize b[at_ + 1].toNat = n1 at *
        generalize b[at_ + 2].toNat = n2 at *
        have hlti : at_ + 1 < b.length := by omega
        have hltj : at_ + 2 < b.length := by omega
        go_wp2_with fail
        refine wp_phi (fun w' => (w'.cell? ⟨bb, off + at_, none⟩ = some (.int .u8 (n0 : Int))) ∧ (w'.cell? ⟨bb, off + at_ + 1, none⟩ = some (.int .u8 (n1 : Int))) ∧ (w'.cell? ⟨bb, off + at_ + 2, none⟩ = some (.int .u8 (n2 : Int))) ∧ (OutF w' w.heap.size u4 fs) ∧ Below w.heap.size w w') [] [] (by kernel_rfl) (by kernel_rfl) ?_ ?_ ⟨c0, c1, c2, HO.out, (hbw).drew⟩ ?_
        · rintro w1' w2' ⟨g0, g1, g2, g3, hIB⟩ hb
          exact ⟨(by first | exact g0.below hb | exact g0.keep (Below.keeps hb) | exact Below.keeps hb _ _ g0 | exact Blk.below g0 hb (Blk.lt g0)), (by first | exact g1.below hb | exact g1.keep (Below.keeps hb) | exact Below.keeps hb _ _ g1 | exact Blk.below g1 hb (Blk.lt g1)), (by first | exact g2.below hb | exact g2.keep (Below.keeps hb) | exact Below.keeps hb _ _ g2 | exact Blk.below g2 hb (Blk.lt g2)), (by first | exact g3.below hb | exact g3.keep (Below.keeps hb) | exact Below.keeps hb _ _ g3 | exact Blk.below g3 hb (Blk.lt g3)), hIB.trans (hb.mono hIB.size)⟩
        · intro p hp; cases hp
        repeat (first | (refine phi_skipK rfl (fun K hK => ?_); simp only [Act.put, List.setIfInBounds_toArray, List.set_cons_succ, List.set_cons_zero]; (try simp only [List.cons_append]); (try simp only [List.nil_append]); apply hK; clear hK K) | (refine phi_pureK rfl rfl (fun K hK => ?_); apply Exists.intro; constructor; (focus (rintro w' ⟨g0, g1, g2, g3, hIB⟩; have q5 : (0 : Int) ≤ (at_ : Int) + 1 := (by omega); have q6 : (0 : Int) ≤ (at_ : Int) + 2 := (by omega); have q7 : ((at_ : Int) + 1).toNat = at_ + 1 := (by omega); have q8 : ((at_ : Int) + 2).toNat = at_ + 2 := (by omega); have q9 : (at_ : Int) + 1 < (b.length : Int) := (by omega); have qa : (at_ : Int) + 2 < (b.length : Int) := (by omega); have G1 := g1; have G2 := g2; rw [Nat.add_assoc] at G1 G2; clear g3 hIB; first | (go_simp; done) | (go_simp; (try go_bits); (try go_simp); rfl) | go_simp)); simp only [Act.put, List.setIfInBounds_toArray, List.set_cons_succ, List.set_cons_zero]; (try simp only [List.cons_append]); (try simp only [List.nil_append]); apply hK; clear hK K))
        refine phi_done ?_
        rintro w2 ⟨g0, g1, g2, g3, hbw2⟩ _
        refine wpList_nil ?_
        clear g0 g1 g2 c0 c1 c2 hlti hltj
        rw [show ((n1 : Int) * 256 + (n2 : Int)) = ((256 * n1 + n2 : Nat) : Int) by omega]
        generalize 256 * n1 + n2 = sz at *
        obtain ⟨us, hus, hown, hel⟩ := g3
        obtain ⟨po, co, rfl, _, _, _⟩ := owns_rd hown
        by_cases hbad : (n0 : Int) ≤ last ∨ 200 < sz ∨ fs.length = 16
        · have hfb := splitF_bad HNE.out (show fieldBad last fs.length (b.drop at_) = some 3 by
            unfold fieldBad; rw [if_neg (by omega), if_pos]
            rw [HT.out, HS.out]; omega)
          have HF := Lib.hid (show (splitF 0 0 b).2 = some 3 by rw [HEQ.out, hfb])
          have hways : (decide ((n0 : Int) ≤ last) = true) ∨ (decide ((n0 : Int) ≤ last) = false ∧ decide ((200 : Int) < (sz : Int)) = true ∧ decide (200 < sz) = true) ∨
              (decide ((n0 : Int) ≤ last) = false ∧ decide ((200 : Int) < (sz : Int)) = false ∧ decide (200 < sz) = false ∧ ((fs.length : Int) == 16) = true) := by
            simp only [decide_eq_true_eq, decide_eq_false_iff_not, beq_iff_eq]; omega
          clear hbad hfb hdl hown hel
          rcases hways with a1 | ⟨a1, a2, a3⟩ | ⟨a1, a2, a3, a4⟩
          all_goals
            go_wp2_with fail
            go_ret2
            exact refsplit_bad 3 HF.out hbw2
        · have a1 : decide ((n0 : Int) ≤ last) = false := by simp; omega
          have a2 : decide ((200 : Int) < (sz : Int)) = false := by simp; omega
          have a3 : decide (200 < sz) = false := by simp; omega
          have a4 : ((fs.length : Int) == 16) = false := by rw [beq_eq_false_iff_ne]; omega
          by_cases hsz : b.length - at_ - 3 < sz
          · have hfb := splitF_bad HNE.out (show fieldBad last fs.length (b.drop at_) = some 1 by
              unfold fieldBad; rw [if_neg (by omega), HT.out, HS.out, if_neg (by omega), if_pos (by omega)])
            have HF := Lib.hid (show (splitF 0 0 b).2 = some 1 by rw [HEQ.out, hfb])
            have a5 : decide ((b.length : Int) - (at_ : Int) - 3 < (sz : Int)) = true := by simp; omega
            clear hfb hdl hown hel hbad hsz
            go_wp2_with fail
            go_ret2
            exact refsplit_bad 1 HF.out hbw2
          · have hfb := splitF_ok HNE.out (show fieldBad last fs.length (b.drop at_) = none by
              unfold fieldBad; rw [if_neg (by omega), HT.out, HS.out, if_neg (by omega), if_neg (by omega)])
            have hrest : restOf (b.drop at_) = b.drop (at_ + (3 + sz)) := by
              unfold restOf; rw [HS.out, List.drop_drop, List.drop_drop]
            have hdata : dataOf (b.drop at_) = (b.drop (at_ + 3)).take sz := by
              unfold dataOf; rw [HS.out, List.drop_drop]
            have HH := Lib.hid (show splitF 0 0 b = ((fs ++ [((n0 : Int), (b.drop (at_ + 3)).take sz)]) ++ (splitF (n0 : Int) (fs.length + 1) (b.drop (at_ + (3 + sz)))).1, (splitF (n0 : Int) (fs.length + 1) (b.drop (at_ + (3 + sz)))).2) by
              rw [HEQ.out, hfb, HT.out, hrest, hdata]; simp)
            have a5 : decide ((b.length : Int) - (at_ : Int) - 3 < (sz : Int)) = false := by simp; omega
            have hld : ((b.drop (at_ + 3)).take sz).length = sz := by rw [List.length_take, List.length_drop]; omega
            have hrd2 : Rd w2 (cutp (some ⟨bb, off, none⟩) (at_ + 3) c 1) (bvs ((b.drop (at_ + 3)).take sz)) := by
              have h := (K3.out.keep (Below.keeps hbw2)).cut (lo := at_ + 3) (s := 1) (cap := c) (by rw [bvs_len]; omega)
              rw [Nat.mul_one, ← bvs_drop] at h
              rw [bvs_take]
              exact h.take sz
            have hmid : ∀ w, (Instr.slice 29 (.slice (some ⟨bb, off, none⟩) b.length c) (some (.int .i64 ((at_ : Int) + 3))) (some (.int .i64 ((at_ : Int) + 3 + (sz : Int)))) none).run Tryz.prog w = .ok (.slice (cutp (some ⟨bb, off, none⟩) (at_ + 3) c 1) sz (c - (at_ + 3))) w := fun w => by
              have := run_slice_mid (P := Tryz.prog) Tryz.underlying29 hi' (some ⟨bb, off, none⟩) b.length c (at_ + 3) (at_ + 3 + sz) (by omega) (by omega) w
              rw [hz1', show at_ + 3 + sz - (at_ + 3) = sz by omega] at this
              rwa [show ((at_ + 3 + sz : Nat) : Int) = (at_ : Int) + 3 + (sz : Int) by omega, show ((at_ + 3 : Nat) : Int) = (at_ : Int) + 3 by omega] at this
            have HR2 := Lib.hid hrd2
            have HLD := Lib.hid hld
            have hgo : at_ + (3 + sz) ≤ b.length := by omega
            have hs200 : sz ≤ 200 := by omega
            have hf16 : fs.length < 16 := by omega
            have hown0 := World.ownsRow_lit (base := w.heap.size) (e := 5) (size := 1) w2 #[] 0 hbw2.size (by unfold maxLen; omega) rfl
            have hs2 := (below_alloc hbw2 (.cells #[] 5)).size
            have HR2' := Lib.hid (hrd2.keep (keep_alloc w2 (.cells #[] 5)))
            have HEL := Lib.hid hel
            have HOW := Lib.hid hown
            clear hfb hdl hbad hsz hrest hdata hrd2 hel hown hld
            generalize (b.drop (at_ + 3)).take sz = dd at *
            go_wp2_with (at_builtin; refine wpList_app (.tmp 59) (.tmp 67) 29 rfl rfl w.heap.size 5 i1 (.int .u8 0) 1 1 Tryz.underlying29 hi' hz0' hz1' hz2' rfl (by decide) _ _ _ rfl hown0 _ _ _ (bvs dd) rfl ?e0 HR2'.out bvs_one ?e1 ?e2 hs2 ?_)
            case e0 => rw [bvs_len, HLD.out]
            case e1 => unfold maxLen; omega
            case e2 => omega
            intro v3 w3 ho3 hg3
            have hal := below_alloc1 w2 (.cells #[] 5)
            have hbw3 := (below_alloc hbw2 (.cells #[] 5)).grown hg3 hs2 (fun j hj => (hown0.lt j hj).1)
            have hown3 := grown_owns hg3 hown0 (owns_below HOW.out hal) (by decide)
            have HEL3 := Lib.hid (fun (i : Nat) (f : Int × List UInt8) (hf : fs[i]? = some f) => show ∃ u, us[i]? = some u ∧ w3.ownsRow w.heap.size 5 1 u f.2.length (bvs f.2) from by
              obtain ⟨u, hu, ho⟩ := HEL.out i f hf
              exact ⟨u, hu, grown_new hg3 ho⟩)
            try simp only [Nat.zero_add, List.nil_append] at ho3
            obtain ⟨p3, c3, rfl, _, _, _⟩ := owns_rd ho3
            have HO3 := Lib.hid ho3
            have HOW3 := Lib.hid hown3
            clear ho3 hg3 hown0 hown3 hal
            have hown4 := owns_below HOW3.out (below_alloc1 w3 (.cells #[.int .i64 (n0 : Int), .slice p3 sz c3] 54))
            have hs3 := (below_alloc hbw3 (.cells #[.int .i64 (n0 : Int), .slice p3 sz c3] 54)).size
            go_wp2_with (at_builtin; refine wpList_app (.tmp 57) (.tmp 70) 47 rfl rfl w.heap.size 54 i0 (.agg #[.int .i64 0, .slice none 0 0]) 2 32 Tryz.underlying47 hi hz0 hz1 hz2 rfl (by decide) _ _ _ rfl hown4 _ _ _ [.int .i64 (n0 : Int), .slice p3 sz c3] rfl rfl (rd_at _ #[_, _] _ _ _ rfl) ?b1 ?b2 ?b3 hs3 ?_)
            case b1 => first | exact ⟨rfl, rfl⟩ | simp [Value.oneCell']
            case b2 => unfold maxLen; omega
            case b3 => omega
            intro v4 w4 ho4 hg4
            have hal4 := below_alloc1 w3 (.cells #[.int .i64 (n0 : Int), .slice p3 sz c3] 54)
            have hbw4 := (below_alloc hbw3 (.cells #[.int .i64 (n0 : Int), .slice p3 sz c3] 54)).grown hg4 hs3 (fun j hj => (hown4.lt j hj).1)
            have HO4 := Lib.hid (show OutF w4 w.heap.size v4 (fs ++ [((n0 : Int), dd)]) from by
              refine OutF.add (f := ((n0 : Int), dd)) hus ho4 hown4 hg4 (fun i f hf => ?_) ?_
              · obtain ⟨u, hu, ho⟩ := HEL3.out i f hf
                exact ⟨u, hu, owns_below ho hal4⟩
              · have := owns_below HO3.out hal4
                rw [show (((n0 : Int), dd) : Int × List UInt8).2.length = sz from HLD.out]
                exact this)
            clear hown4 ho4 hg4 hal4 hs3
            have e9 : (at_ : Int) + 3 + (sz : Int) = ((at_ + (3 + sz) : Nat) : Int) := by omega
            go_wp2_with fail
            go_roundw
            case measure => simp [intOf]; omega
            case rel => exact ⟨fs ++ [((n0 : Int), dd)], at_ + (3 + sz), (n0 : Int), hgo, by simp; omega, by omega, rfl, by first | rfl | (congr 1), by rw [List.length_append]; exact HH.out, HO4.out, hbw4⟩
    · obtain rfl : at_ = b.length := by omega
      have HSP := Lib.hid (show splitF 0 0 b = (fs, none) by rw [HEQ.out, List.drop_length, splitF_nil, List.append_nil])
      have HF := Lib.hid (show splitE b = 0 ∧ splitL b = fs by unfold splitE splitL; rw [HSP.out]; exact ⟨rfl, rfl⟩)
      obtain ⟨us, hus, hown, hel⟩ := id HO.out
      obtain ⟨po, co, rfl, _, _, _⟩ := owns_rd hown
      clear hus hown hel hdl
      have d1 : decide ((b.length : Int) < (b.length : Int)) = false := by simp
      go_wp2_with fail
      go_ret2
      exact ⟨_, by rw [HF.out.1]; rfl, by rw [HF.out.2]; exact HO.out.fld, hbw⟩
end Go.Proofs.YtjklcbdlfmmllaaGreatDoor
