/-
  RefNum: the walks of liaisonref03.Number and ToNumber.
-/
import Derived.Test.YtpbgappggmcmgaaDoorToNumW
namespace Go.Proofs.YtpbgappggmcmgaaDoor
open Go.RowKit

/-- the call gives a row of bytes of its own -/
def GivesO (w : World) (l : List UInt8) (e : Ending) (w' : World) : Prop :=
  ∃ v, e = .returned v ∧ w'.ownsRow w.heap.size 5 1 v l.length (bvs l) ∧ Below w.heap.size w w'
theorem GivesO.byt {w w' : World} {l : List UInt8} {e : Ending} (h : GivesO w l e w') : ∃ v, e = .returned v ∧ Byt w' v l ∧ Below w.heap.size w w' := by
  obtain ⟨v, h1, h2, h3⟩ := h
  exact ⟨v, h1, owns_byt h2, h3⟩
set_option maxRecDepth 20000 in
set_option maxHeartbeats 1000000 in
theorem refnumber_any (n : Nat) : ∀ (w : World) (_ : n ≤ 9223372036854775807),
    Calls Tryd.prog 41 #[.int .i64 (n : Int)] w (GivesO w (numB n)) := by
  induction n using Nat.strongRecOn with
  | ind n ih =>
    intro w hn
    obtain ⟨i0, hi, hz0, hz1, hz2⟩ := info_parts byt8Info
    by_cases h0 : n = 0
    · subst h0
      rw [numB_zero]
      go_enter Tryd.func41, Tryd.ntmps41
      go_wp2_with fail
      go_ret
      exact ⟨_, rfl, ⟨rfl, .inl ⟨rfl, rfl⟩⟩, Below.refl _ _⟩
    · have d0 : ((n : Int) == 0) = false := by simp [h0]
      have HP := Lib.hid (numB_pos h0)
      have HI := Lib.hid (ih (n / 256) (by omega))
      have hlen := numB_len (n := n / 256) 8 (by omega)
      clear ih h0
      go_enter Tryd.func41, Tryd.ntmps41
      go_wp2_with fail
      rw [show (n : Int) / 256 = ((n / 256 : Nat) : Int) by omega]
      refine (HI.out w (by omega)).mono ?_
      rintro e w1 ⟨v1, rfl, ho1, hb1⟩
      have hs1 := (below_alloc hb1 (.cells #[.int .u8 ((n : Int) % 256)] 5)).size
      have ho1' := owns_below ho1 (below_alloc1 w1 (.cells #[.int .u8 ((n : Int) % 256)] 5))
      generalize numB (n / 256) = x at *
      go_wp2_with (at_builtin; refine wpList_app (.tmp 7) (.tmp 11) 27 rfl rfl w.heap.size 5 i0 (.int .u8 0) 1 1 Tryd.underlying27 hi hz0 hz1 hz2 rfl (by decide) _ _ _ rfl ho1' _ _ _ (bvs [UInt8.ofNat n]) rfl ?c0 ?cr bvs_one ?c1 ?c2 hs1 ?_)
      case c0 => rfl
      case cr =>
        have hb : bvs [UInt8.ofNat n] = [.int .u8 ((n : Int) % 256)] := by
          simp only [bvs, List.map_cons, List.map_nil, bv, byte_wrap]; simp
        rw [hb]; exact rd_at _ #[_] _ _ _ rfl
      case c1 => unfold maxLen; omega
      case c2 => omega
      intro v2 w2 ho2 hg2
      have hb2 := (below_alloc hb1 (.cells #[.int .u8 ((n : Int) % 256)] 5)).grown hg2 hs1 (fun j hj => (ho1'.lt j hj).1)
      clear ho1 ho1' hg2
      go_wp2_with fail
      go_ret
      exact ⟨_, rfl, by rw [HP.out, bvs_app, List.length_append]; simpa using ho2, hb2⟩
set_option maxRecDepth 20000 in
set_option maxHeartbeats 1000000 in
theorem reftonumber_any (v : Value) (l : List UInt8) (w : World) (hv : Byt w v l) :
    Calls Tryd.prog 44 #[v] w fun e w' => e = .returned (.tuple #[.int .i64 (toNumF l : Int), .int .i64 (toNumE l : Int)]) ∧ Below w.heap.size w w' := by
  obtain ⟨p, cap, rfl, h1, h2, h3⟩ := hv
  unfold maxLen at h2
  have H3 := Lib.hid h3
  clear h3
  have hcase : l = [] ∨ ∃ c m, l = c :: m := by cases l <;> simp
  have hgt : decide (9223372036854775807 < valB l) = true ∨ decide (9223372036854775807 < valB l) = false := by
    cases decide (9223372036854775807 < valB l) <;> simp
  rcases hcase with h0 | ⟨c, m, hcm⟩
  · have HF := Lib.hid (show toNumF l = valB l ∧ toNumE l = 0 by subst h0; exact ⟨rfl, rfl⟩)
    have hl8 : l.length ≤ 8 := by subst h0; simp
    have hl63 : valB l ≤ 9223372036854775807 := by subst h0; rw [valB_nil]; omega
    have dg : decide ((9223372036854775807 : Int) < (valB l : Int)) = false := by simp; omega
    have d1 : decide ((0 : Int) < (l.length : Int)) = false := by subst h0; rfl
    have d1' : decide (0 < l.length) = false := by subst h0; rfl
    have d8 : decide ((8 : Int) < (l.length : Int)) = false := by subst h0; rfl
    have d8' : decide (8 < l.length) = false := by subst h0; rfl
    clear h0 hgt
    go_enter Tryd.func44, Tryd.ntmps44
    go_wp2_with fail
    go_loop [4, 21] (fun n i => ∃ k : Nat, k ≤ l.length ∧ i = .int .i64 k ∧ n = .int .u64 (valB (l.take k) : Int)) (fun _ i => l.length - (intOf i).toNat)
    case atStart => exact ⟨0, by omega, rfl, rfl⟩
    case round =>
      obtain ⟨k, hk, rfl, rfl⟩ := hrel
      have hmax := valB_8b l hl8
      by_cases hlt : k < l.length
      · obtain ⟨b2, off2, hp2, hck⟩ := byt_cell H3.out hlt
        have hpre := valB_pre l hl8 k hlt
        have HT := Lib.hid (valB_take l k hlt)
        have hc8 := l[k].toNat_lt
        first | (cases hp2; skip) | (subst hp2; skip)
        clear dg
        generalize valB (l.take k) = u at *
        generalize l[k].toNat = x at *
        go_wp2_with fail
        go_round
        case rel => exact ⟨k + 1, by omega, by go_num, by rw [HT.out]; go_num⟩
        case measure => simp [intOf]; omega
      · obtain rfl : k = l.length := by omega
        rw [List.take_of_length_le (Nat.le_refl _)]
        go_wp2_with fail
        go_ret2
        rw [HF.out.1, HF.out.2]
        exact ⟨rfl, Below.refl _ _⟩
  · have hpos : 0 < l.length := by rw [hcm]; simp
    obtain ⟨b, off, rfl, hc⟩ := byt_cell H3.out hpos
    have hc0 : w.cell? ⟨b, off, none⟩ = some (.int .u8 (c.toNat : Int)) := by
      have : l[0] = c := by simp [hcm]
      rw [← this]; exact hc
    clear hc
    have d1 : decide ((0 : Int) < (l.length : Int)) = true := by simp; omega
    have d1' : decide (0 < l.length) = true := by simp; omega
    have hc256 := c.toNat_lt
    by_cases hz : c.toNat = 0
    · have dz : ((c.toNat : Int) == 0) = true := by simp [hz]
      have HE := Lib.hid (show toNumF l = 0 ∧ toNumE l = 4 by
        have : toNumE l = 4 := by unfold toNumE; rw [hcm, if_pos]; rw [List.head?_cons]; congr 1; exact UInt8.toNat_inj.1 hz
        refine ⟨?_, this⟩
        unfold toNumF; rw [this]; rfl)
      clear hcm hz hgt
      go_enter Tryd.func44, Tryd.ntmps44
      go_wp2_with fail
      go_ret2
      rw [HE.out.1, HE.out.2]
      exact ⟨rfl, Below.refl _ _⟩
    · have dz : ((c.toNat : Int) == 0) = false := by simp [hz]
      have hhead : ¬ l.head? = some 0 := by
        rw [hcm, List.head?_cons]; intro e; apply hz; rw [Option.some.inj e]; rfl
      by_cases h8 : 8 < l.length
      · have d8 : decide ((8 : Int) < (l.length : Int)) = true := by simp; omega
        have d8' : decide (8 < l.length) = true := by simp; omega
        have HE := Lib.hid (show toNumF l = 0 ∧ toNumE l = 1 by
          have : toNumE l = 1 := by unfold toNumE; rw [if_neg hhead, if_pos (.inl h8)]
          refine ⟨?_, this⟩
          unfold toNumF; rw [this]; rfl)
        clear hcm hz hhead hgt
        go_enter Tryd.func44, Tryd.ntmps44
        go_wp2_with fail
        go_ret2
        rw [HE.out.1, HE.out.2]
        exact ⟨rfl, Below.refl _ _⟩
      · have d8 : decide ((8 : Int) < (l.length : Int)) = false := by simp; omega
        have d8' : decide (8 < l.length) = false := by simp; omega
        have hl8 : l.length ≤ 8 := by omega
        by_cases hg : 9223372036854775807 < valB l
        · have dg : decide ((9223372036854775807 : Int) < (valB l : Int)) = true := by simp; omega
          have HF := Lib.hid (show toNumF l = 0 ∧ toNumE l = 1 by
            have : toNumE l = 1 := by
              unfold toNumE; rw [if_neg hhead, if_pos]
              refine .inr ⟨?_, hg⟩
              have := valB_7 l
              omega
            refine ⟨?_, this⟩
            unfold toNumF; rw [this]; rfl)
          clear hcm hz hhead hgt
          go_enter Tryd.func44, Tryd.ntmps44
          go_wp2_with fail
          go_loop [4, 21] (fun n i => ∃ k : Nat, k ≤ l.length ∧ i = .int .i64 k ∧ n = .int .u64 (valB (l.take k) : Int)) (fun _ i => l.length - (intOf i).toNat)
          case atStart => exact ⟨0, by omega, rfl, rfl⟩
          case round =>
            obtain ⟨k, hk, rfl, rfl⟩ := hrel
            have hmax := valB_8b l hl8
            by_cases hlt : k < l.length
            · obtain ⟨b2, off2, hp2, hck⟩ := byt_cell H3.out hlt
              have hpre := valB_pre l hl8 k hlt
              have HT := Lib.hid (valB_take l k hlt)
              have hc8 := l[k].toNat_lt
              first | (cases hp2; skip) | (subst hp2; skip)
              clear dg
              generalize valB (l.take k) = u at *
              generalize l[k].toNat = x at *
              go_wp2_with fail
              go_round
              case rel => exact ⟨k + 1, by omega, by go_num, by rw [HT.out]; go_num⟩
              case measure => simp [intOf]; omega
            · obtain rfl : k = l.length := by omega
              rw [List.take_of_length_le (Nat.le_refl _)]
              go_wp2_with fail
              go_ret2
              rw [HF.out.1, HF.out.2]
              exact ⟨rfl, Below.refl _ _⟩
        · have dg : decide ((9223372036854775807 : Int) < (valB l : Int)) = false := by simp; omega
          have HF := Lib.hid (show toNumF l = valB l ∧ toNumE l = 0 by
            have : toNumE l = 0 := by
              unfold toNumE; rw [if_neg hhead, if_neg]
              rintro (h | ⟨_, h⟩)
              · exact h8 h
              · exact hg h
            refine ⟨?_, this⟩
            unfold toNumF; rw [this]; rfl)
          have hl63 : valB l ≤ 9223372036854775807 := by omega
          clear hcm hz hhead hgt
          go_enter Tryd.func44, Tryd.ntmps44
          go_wp2_with fail
          go_loop [4, 21] (fun n i => ∃ k : Nat, k ≤ l.length ∧ i = .int .i64 k ∧ n = .int .u64 (valB (l.take k) : Int)) (fun _ i => l.length - (intOf i).toNat)
          case atStart => exact ⟨0, by omega, rfl, rfl⟩
          case round =>
            obtain ⟨k, hk, rfl, rfl⟩ := hrel
            have hmax := valB_8b l hl8
            by_cases hlt : k < l.length
            · obtain ⟨b2, off2, hp2, hck⟩ := byt_cell H3.out hlt
              have hpre := valB_pre l hl8 k hlt
              have HT := Lib.hid (valB_take l k hlt)
              have hc8 := l[k].toNat_lt
              first | (cases hp2; skip) | (subst hp2; skip)
              clear dg
              generalize valB (l.take k) = u at *
              generalize l[k].toNat = x at *
              go_wp2_with fail
              go_round
              case rel => exact ⟨k + 1, by omega, by go_num, by rw [HT.out]; go_num⟩
              case measure => simp [intOf]; omega
            · obtain rfl : k = l.length := by omega
              rw [List.take_of_length_le (Nat.le_refl _)]
              go_wp2_with fail
              go_ret2
              rw [HF.out.1, HF.out.2]
              exact ⟨rfl, Below.refl _ _⟩
end Go.Proofs.YtpbgappggmcmgaaDoor
