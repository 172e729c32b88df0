/-
  LawSplit: the walk of FieldsSplit.
-/
import Derived.Test.YtchclmimdpnkaaaDoorRefSame
import Derived.Test.YtchclmimdpnkaaaDoorKept
import Derived.Test.YtchclmimdpnkaaaDoorFldAlive
namespace Go.Proofs.YtchclmimdpnkaaaDoor
open Go.RowKit
attribute [local go_sem] bs_toList

theorem splitF_right (b : List UInt8) : ∀ (last : Int) (cnt : Nat), cnt ≤ 16 → (splitF last cnt b).2 = none →
    rowOk last (splitF last cnt b).1 = true ∧ cnt + (splitF last cnt b).1.length ≤ 16 ∧ joinL (splitF last cnt b).1 = b := by
  induction hn : b.length using Nat.strongRecOn generalizing b with
  | _ n ih =>
    intro last cnt hc h
    by_cases hb : b = []
    · subst hb
      rw [splitF_nil] at *
      exact ⟨rfl, by simpa using hc, rfl⟩
    · cases hf : fieldBad last cnt b with
      | some m => rw [splitF_bad hb hf] at h; cases h
      | none =>
        rw [splitF_ok hb hf] at h ⊢
        have h16 := cnt_lt hf
        obtain ⟨i1, i2, i3⟩ := ih (restOf b).length (by rw [← hn]; exact rest_lt hf) (restOf b) rfl (tagOf b) (cnt + 1) (by omega) h
        have hbd := tagOf_bd b
        match b, hb, hf, i1, i2, i3, hbd with
        | x0 :: x1 :: x2 :: r, _, hf, i1, i2, i3, hbd =>
          have hsz : sizeOfF (x0 :: x1 :: x2 :: r) = 256 * x1.toNat + x2.toNat := rfl
          have ht : tagOf (x0 :: x1 :: x2 :: r) = (x0.toNat : Int) := rfl
          have hd : dataOf (x0 :: x1 :: x2 :: r) = r.take (256 * x1.toNat + x2.toNat) := by unfold dataOf; rw [hsz]; rfl
          have hr : restOf (x0 :: x1 :: x2 :: r) = r.drop (256 * x1.toNat + x2.toNat) := by unfold restOf; rw [hsz]; rfl
          unfold fieldBad at hf
          rw [hsz, ht] at hf
          simp only [List.length_cons] at hf
          split at hf
          · cases hf
          · split at hf
            · cases hf
            · split at hf
              · cases hf
              · rename_i q1 q2 q3
                have y0 := x0.toNat_lt
                have y1 := x1.toNat_lt
                have y2 := x2.toNat_lt
                have hlen : (r.take (256 * x1.toNat + x2.toNat)).length = 256 * x1.toNat + x2.toNat := by rw [List.length_take]; omega
                refine ⟨?_, ?_, ?_⟩
                · simp only [rowOk, i1, Bool.and_true, fieldOk, Bool.and_eq_true, decide_eq_true_eq]
                  rw [hd, hlen, ht]
                  omega
                · simp only [List.length_cons]; omega
                · have e : ∀ (f : Int × List UInt8) fs, joinL (f :: fs) = fieldB f ++ joinL fs := fun _ _ => rfl
                  rw [e, i3, hr, ht, hd]
                  unfold fieldB
                  simp only [hlen]
                  have e0 : UInt8.ofNat ((x0.toNat : Int) % 256).toNat = x0 := by
                    apply UInt8.toNat_inj.1; simp; omega
                  have e1 : UInt8.ofNat ((256 * x1.toNat + x2.toNat) / 256) = x1 := by
                    apply UInt8.toNat_inj.1; simp; omega
                  have e2 : UInt8.ofNat (256 * x1.toNat + x2.toNat) = x2 := by
                    apply UInt8.toNat_inj.1; simp
                  rw [e0, e1, e2]
                  simp
        | [_], _, hf, _, _, _, _ => simp [fieldBad] at hf
        | [_, _], _, hf, _, _, _, _ => simp [fieldBad] at hf
theorem split_law (b : List UInt8) (h : splitE b = 0) : joinE (splitL b) = 0 ∧ joinR (splitL b) = b := by
  unfold splitE at h
  split at h
  · rename_i h2
    obtain ⟨a1, a2, a3⟩ := splitF_right b 0 0 (by omega) h2
    have hL : splitL b = (splitF 0 0 b).1 := by unfold splitL; rw [h2]
    have hR : rightRow (splitL b) = true := by unfold rightRow; rw [hL, a1]; simp; omega
    unfold joinE joinR
    rw [hR, hL]
    exact ⟨rfl, a3⟩
  · omega
theorem splitE_le (b : List UInt8) : splitE b ≤ 14 := by
  unfold splitE
  split
  · omega
  · rename_i n h
    have : ∀ (m : Nat) (b : List UInt8), b.length ≤ m → ∀ (last : Int) (cnt n : Nat), (splitF last cnt b).2 = some n → n < 14 := by
      intro m
      induction m with
      | zero =>
        intro b hb last cnt n h
        obtain rfl : b = [] := List.length_eq_zero_iff.1 (by omega)
        rw [splitF_nil] at h; cases h
      | succ m ih =>
        intro b hb last cnt n h
        by_cases h0 : b = []
        · subst h0; rw [splitF_nil] at h; cases h
        · cases hf : fieldBad last cnt b with
          | some k => rw [splitF_bad h0 hf] at h; cases h; exact fieldBad_lt hf
          | none =>
            rw [splitF_ok h0 hf] at h
            have := rest_lt hf
            exact ih (restOf b) (by omega) _ _ n h
    have := this b.length b (Nat.le_refl _) 0 0 n h
    omega

set_option maxRecDepth 20000 in
set_option maxHeartbeats 2000000 in
theorem lawsplit_any (v : Value) (l : List UInt8) (w : World) (E : Nat → Addr) (he : Errs w E) (hv : Byt w v l) :
    Calls Tryd.prog 6 #[v] w (ok1 w) := by
  have HE := Lib.hid he
  have HA := alive_any w E (he.on [0, 3] rfl)
  have HV := Lib.hid hv
  clear he
  obtain ⟨p, cap, rfl, h1, h2, h3⟩ := hv
  unfold maxLen at h2
  clear h3
  go_enter Tryd.func6, Tryd.ntmps6
  go_wp2_with fail
  refine HA.mono ?_
  rintro e w1 ⟨rfl, hb1⟩
  by_cases hl : l.length ≤ 5000
  · have hld : decide (5000 < (l.length : Int)) = false := decide_eq_false (by omega)
    have hld' : decide (5000 < l.length) = false := decide_eq_false (by omega)
    go_wp2_with fail
    refine (bytes_any _ l w1 (by omega) (HV.out.below hb1)).mono ?_
    rintro e w2 ⟨v2, rfl, hm, hb2⟩
    replace hb2 := hb1.trans (hb2.mono hb1.size)
    have HM := Lib.hid hm
    obtain ⟨p2, c2, rfl, _, _, _⟩ := id hm
    clear hm
    go_wp2_with fail
    refine (split_any w2 E _ l (HE.out.below hb2) HM.out.byt).mono ?_
    rintro e w3 ⟨v3, rfl, hf3, hb3'⟩
    have hb3 := hb2.trans (hb3'.mono hb2.size)
    have HM3 := Lib.hid (HM.out.keep (Below.keeps hb3'))
    have HF3 := Lib.hid hf3
    clear hf3 hb3' HM
    go_wp2_with fail
    refine (refsplit_any w3 _ l (HV.out.below hb3) (by omega)).mono ?_
    rintro e w4 ⟨v4, rfl, hf4, hb4'⟩
    have hb4 := hb3.trans (hb4'.mono hb3.size)
    have HM4 := Lib.hid (HM3.out.keep (Below.keeps hb4'))
    have HF34 := Lib.hid (HF3.out.keep (Below.keeps hb4'))
    have HF4 := Lib.hid hf4
    have HLE := Lib.hid (splitE_le l)
    have HLAW := Lib.hid (split_law l)
    clear hf4 hb4' HM3 HF3
    generalize hq : splitE l = q at *
    generalize hfs : splitL l = fs at *
    have hqq : ((q : Int) != (q : Int)) = false := by simp
    obtain ⟨p3, c3, us3, rfl, _⟩ := id HF34.out
    obtain ⟨p4, c4, us4, rfl, _⟩ := id HF4.out
    go_wp2_with fail
    refine (refsame_any _ _ fs fs w4 HF34.out HF4.out).mono ?_
    rintro e w5 ⟨rfl, hb5'⟩
    have hb5 := hb4.trans (hb5'.mono hb4.size)
    have HM5 := Lib.hid (HM4.out.keep (Below.keeps hb5'))
    have HF5 := Lib.hid (HF34.out.keep (Below.keeps hb5'))
    have hdd : decide (fs = fs) = true := by simp
    rw [hdd]
    clear hb5' HM4 HF34 hdd
    go_wp2_with fail
    refine (num_any w5 E q HLE.out (HE.out.below hb5)).mono ?_
    rintro e w6 ⟨rfl, hb6'⟩
    have hb6 := hb5.trans (hb6'.mono hb5.size)
    have HM6 := Lib.hid (HM5.out.keep (Below.keeps hb6'))
    have HF6 := Lib.hid (HF5.out.keep (Below.keeps hb6'))
    clear hb6' HM5 HF5
    go_wp2_with fail
    refine (kept_any _ _ l w6 HM6.out (HV.out.below hb6)).mono ?_
    rintro e w7 ⟨rfl, hb7'⟩
    have hb7 := hb6.trans (hb7'.mono hb6.size)
    have HF7 := Lib.hid (HF6.out.keep (Below.keeps hb7'))
    clear hb7' HM6 HF6
    by_cases hq0 : q = 0
    · subst hq0
      obtain ⟨hE0, hR0⟩ := HLAW.out rfl
      go_wp2_with fail
      refine (join_any _ fs w7 E ((HE.out.below hb7).on [3] rfl) HF7.out).mono ?_
      rintro e w8 hg
      rw [hE0, hR0] at hg
      obtain ⟨p8, c8, rfl, hy8, hb8'⟩ := gb_byt hg
      have hb8 := hb7.trans (hb8'.mono hb7.size)
      rw [errV_zero]
      have s1 := str_of hy8
      have s2 := str_of (HV.out.keep (Below.keeps hb8))
      clear hg hy8 hE0 hR0 hb8'
      go_wp2_with fail
      go_ret
      exact ⟨rfl, hb8⟩
    · have hqn : ((q : Int) != 0) = true := by simp; omega
      go_wp2_with fail
      go_ret
      exact ⟨rfl, hb7⟩
  · have hld : decide (5000 < (l.length : Int)) = true := decide_eq_true (by omega)
    have hld' : decide (5000 < l.length) = true := decide_eq_true (by omega)
    go_wp2_with fail
    go_ret
    exact ⟨rfl, hb1⟩
end Go.Proofs.YtchclmimdpnkaaaDoor
