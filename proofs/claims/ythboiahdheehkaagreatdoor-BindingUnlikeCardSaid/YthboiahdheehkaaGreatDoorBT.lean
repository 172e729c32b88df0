/- LetterRC -/
import Derived.Test.YthboiahdheehkaaGreatDoorBQ
import Derived.Test.YthboiahdheehkaaGreatDoorBB
namespace Go.Proofs.YthboiahdheehkaaGreatDoor
set_option maxHeartbeats 4000000
set_option maxRecDepth 20000
open Go.RowKit Go.Extern.Stop Go.Stop Go.Extern
theorem lright_any (m : Msg) (hm : m.wf) (w : World) (E : Nat → Addr) (h : IdsG w E) :
    Calls Tryz.prog 9 #[msgV m] w fun e w' => e = .returned (.bool (rightM m)) ∧ Below w.heap.size w w' := by
  have hn := hm m.n (by unfold Msg.l; simp)
  have hs := hm m.s (by unfold Msg.l; simp)
  clear hm
  unfold rightM msgV
  obtain ⟨k, f, t, n, s, r, p, q, c⟩ := m
  simp only at hn hs ⊢
  have HG := Lib.hid (fun w' (hb : Below w.heap.size w w') => h.below hb)
  have B := Lib.hid (below_alloc1 w (.cells #[.int .i64 k, .int .i64 f, .int .i64 t, .int .i64 n, .int .i64 s, .int .i64 r, .int .i64 p, .int .i64 q, .int .i64 c] 25))
  have N := Lib.hid (Blk.new w 25 #[.int .i64 k, .int .i64 f, .int .i64 t, .int .i64 n, .int .i64 s, .int .i64 r, .int .i64 p, .int .i64 q, .int .i64 c])
  have n0 := (N.out.cell 0).trans rfl
  have n1 := (N.out.cell 1).trans rfl
  have n2 := (N.out.cell 2).trans rfl
  have n3 := (N.out.cell 3).trans rfl
  have n4 := (N.out.cell 4).trans rfl
  have n5 := (N.out.cell 5).trans rfl
  have n6 := (N.out.cell 6).trans rfl
  have n7 := (N.out.cell 7).trans rfl
  have n8 := (N.out.cell 8).trans rfl
  have HCO := Lib.hid (fun w' => codes_any k w')
  have HPR := Lib.hid (fun w' => protocols_any k w')
  have HW1 := Lib.hid (fun w' => within_any k 1 19 w')
  have HW2 := Lib.hid (fun w' => within_any f 0 3 w')
  have HW3 := Lib.hid (fun w' => within_any t 0 3 w')
  have HW4 := Lib.hid (fun w' h => right_any w' E n s hn.1 hs.1 h)
  have HW5 := Lib.hid (fun w' => within_any r 0 (regH k) w')
  have HW6 := Lib.hid (fun w' => within_any p 0 7 w')
  have HW7 := Lib.hid (fun w' => within_any q (protL k) (protH k) w')
  have HW8 := Lib.hid (fun w' => within_any c (cdL k) (cdH k) w')
  have hrg : (k = 17 ∧ regH k = 0) ∨ (¬ k = 17 ∧ regH k = 5) := by unfold regH; split <;> omega
  obtain ⟨z, hz⟩ : ∃ z, z = (inR k 1 19 && inR f 0 3 && inR t 0 3 && actOk n s && inR r 0 (regH k) && inR p 0 7 && inR q (protL k) (protH k) && inR c (cdL k) (cdH k)) := ⟨_, rfl⟩
  rw [← hz]
  have HR := Lib.hid (show Ending.returned (Value.bool (inR k 1 19 && inR f 0 3 && inR t 0 3 && actOk n s && inR r 0 (regH k) && inR p 0 7 && inR q (protL k) (protH k) && inR c (cdL k) (cdH k))) = Ending.returned (Value.bool z) by rw [hz])
  clear hz hn hs h
  unfold actV at HW4
  change RowKit.Hid (∀ w' : World, IdsG w' E → Calls Tryz.prog 34 #[.agg #[.int .i64 n, .int .i64 s]] w' fun e w'' => e = .returned (.bool (actOk n s)) ∧ Below w'.heap.size w' w'') at HW4
  generalize cdL k = cl at *
  generalize cdH k = ch at *
  generalize protL k = ql at *
  generalize protH k = qh at *
  generalize hrh : regH k = rh at *
  rcases hrg with ⟨hk, h0⟩ | ⟨hk, h0⟩
  · subst h0
    have d1 : (k == 17) = true := by simpa using hk
    clear hk hrh
    cases h1 : inR k 1 19
    · rw [h1] at HR HW1
      go_enter Tryz.func9, Tryz.ntmps9
      go_wp2_with fail
      refine (HCO.out _).mono ?_
      rintro e w' ⟨rfl, hb⟩
      have B' := Lib.hid (B.out.trans (hb.mono B.out.size))
      have N' := Lib.hid (N.out.below hb N.out.lt)
      clear n0 n1 n2 n3 n4 n5 n6 n7 n8 hb B N
      have n0 := (N'.out.cell 0).trans rfl
      have n1 := (N'.out.cell 1).trans rfl
      have n2 := (N'.out.cell 2).trans rfl
      have n3 := (N'.out.cell 3).trans rfl
      have n4 := (N'.out.cell 4).trans rfl
      have n5 := (N'.out.cell 5).trans rfl
      have n6 := (N'.out.cell 6).trans rfl
      have n7 := (N'.out.cell 7).trans rfl
      have n8 := (N'.out.cell 8).trans rfl
      have B := Lib.hid B'.out
      have N := Lib.hid N'.out
      clear B' N'
      go_wp2_with fail
      refine (HPR.out _).mono ?_
      rintro e w' ⟨rfl, hb⟩
      have B' := Lib.hid (B.out.trans (hb.mono B.out.size))
      have N' := Lib.hid (N.out.below hb N.out.lt)
      clear n0 n1 n2 n3 n4 n5 n6 n7 n8 hb B N
      have n0 := (N'.out.cell 0).trans rfl
      have n1 := (N'.out.cell 1).trans rfl
      have n2 := (N'.out.cell 2).trans rfl
      have n3 := (N'.out.cell 3).trans rfl
      have n4 := (N'.out.cell 4).trans rfl
      have n5 := (N'.out.cell 5).trans rfl
      have n6 := (N'.out.cell 6).trans rfl
      have n7 := (N'.out.cell 7).trans rfl
      have n8 := (N'.out.cell 8).trans rfl
      have B := Lib.hid B'.out
      have N := Lib.hid N'.out
      clear B' N'
      go_wp2_with fail
      refine (HW1.out _).mono ?_
      rintro e w' ⟨rfl, hb⟩
      have B' := Lib.hid (B.out.trans (hb.mono B.out.size))
      have N' := Lib.hid (N.out.below hb N.out.lt)
      clear n0 n1 n2 n3 n4 n5 n6 n7 n8 hb B N
      have n0 := (N'.out.cell 0).trans rfl
      have n1 := (N'.out.cell 1).trans rfl
      have n2 := (N'.out.cell 2).trans rfl
      have n3 := (N'.out.cell 3).trans rfl
      have n4 := (N'.out.cell 4).trans rfl
      have n5 := (N'.out.cell 5).trans rfl
      have n6 := (N'.out.cell 6).trans rfl
      have n7 := (N'.out.cell 7).trans rfl
      have n8 := (N'.out.cell 8).trans rfl
      have B := Lib.hid B'.out
      have N := Lib.hid N'.out
      clear B' N'
      go_wp2_with fail
      go_ret
      exact ⟨HR.out, B.out⟩
    · rw [h1] at HR HW1
      cases h2 : inR f 0 3
      · rw [h2] at HR HW2
        go_enter Tryz.func9, Tryz.ntmps9
        go_wp2_with fail
        refine (HCO.out _).mono ?_
        rintro e w' ⟨rfl, hb⟩
        have B' := Lib.hid (B.out.trans (hb.mono B.out.size))
        have N' := Lib.hid (N.out.below hb N.out.lt)
        clear n0 n1 n2 n3 n4 n5 n6 n7 n8 hb B N
        have n0 := (N'.out.cell 0).trans rfl
        have n1 := (N'.out.cell 1).trans rfl
        have n2 := (N'.out.cell 2).trans rfl
        have n3 := (N'.out.cell 3).trans rfl
        have n4 := (N'.out.cell 4).trans rfl
        have n5 := (N'.out.cell 5).trans rfl
        have n6 := (N'.out.cell 6).trans rfl
        have n7 := (N'.out.cell 7).trans rfl
        have n8 := (N'.out.cell 8).trans rfl
        have B := Lib.hid B'.out
        have N := Lib.hid N'.out
        clear B' N'
        go_wp2_with fail
        refine (HPR.out _).mono ?_
        rintro e w' ⟨rfl, hb⟩
        have B' := Lib.hid (B.out.trans (hb.mono B.out.size))
        have N' := Lib.hid (N.out.below hb N.out.lt)
        clear n0 n1 n2 n3 n4 n5 n6 n7 n8 hb B N
        have n0 := (N'.out.cell 0).trans rfl
        have n1 := (N'.out.cell 1).trans rfl
        have n2 := (N'.out.cell 2).trans rfl
        have n3 := (N'.out.cell 3).trans rfl
        have n4 := (N'.out.cell 4).trans rfl
        have n5 := (N'.out.cell 5).trans rfl
        have n6 := (N'.out.cell 6).trans rfl
        have n7 := (N'.out.cell 7).trans rfl
        have n8 := (N'.out.cell 8).trans rfl
        have B := Lib.hid B'.out
        have N := Lib.hid N'.out
        clear B' N'
        go_wp2_with fail
        refine (HW1.out _).mono ?_
        rintro e w' ⟨rfl, hb⟩
        have B' := Lib.hid (B.out.trans (hb.mono B.out.size))
        have N' := Lib.hid (N.out.below hb N.out.lt)
        clear n0 n1 n2 n3 n4 n5 n6 n7 n8 hb B N
        have n0 := (N'.out.cell 0).trans rfl
        have n1 := (N'.out.cell 1).trans rfl
        have n2 := (N'.out.cell 2).trans rfl
        have n3 := (N'.out.cell 3).trans rfl
        have n4 := (N'.out.cell 4).trans rfl
        have n5 := (N'.out.cell 5).trans rfl
        have n6 := (N'.out.cell 6).trans rfl
        have n7 := (N'.out.cell 7).trans rfl
        have n8 := (N'.out.cell 8).trans rfl
        have B := Lib.hid B'.out
        have N := Lib.hid N'.out
        clear B' N'
        go_wp2_with fail
        refine (HW2.out _).mono ?_
        rintro e w' ⟨rfl, hb⟩
        have B' := Lib.hid (B.out.trans (hb.mono B.out.size))
        have N' := Lib.hid (N.out.below hb N.out.lt)
        clear n0 n1 n2 n3 n4 n5 n6 n7 n8 hb B N
        have n0 := (N'.out.cell 0).trans rfl
        have n1 := (N'.out.cell 1).trans rfl
        have n2 := (N'.out.cell 2).trans rfl
        have n3 := (N'.out.cell 3).trans rfl
        have n4 := (N'.out.cell 4).trans rfl
        have n5 := (N'.out.cell 5).trans rfl
        have n6 := (N'.out.cell 6).trans rfl
        have n7 := (N'.out.cell 7).trans rfl
        have n8 := (N'.out.cell 8).trans rfl
        have B := Lib.hid B'.out
        have N := Lib.hid N'.out
        clear B' N'
        go_wp2_with fail
        go_ret
        exact ⟨HR.out, B.out⟩
      · rw [h2] at HR HW2
        cases h3 : inR t 0 3
        · rw [h3] at HR HW3
          go_enter Tryz.func9, Tryz.ntmps9
          go_wp2_with fail
          refine (HCO.out _).mono ?_
          rintro e w' ⟨rfl, hb⟩
          have B' := Lib.hid (B.out.trans (hb.mono B.out.size))
          have N' := Lib.hid (N.out.below hb N.out.lt)
          clear n0 n1 n2 n3 n4 n5 n6 n7 n8 hb B N
          have n0 := (N'.out.cell 0).trans rfl
          have n1 := (N'.out.cell 1).trans rfl
          have n2 := (N'.out.cell 2).trans rfl
          have n3 := (N'.out.cell 3).trans rfl
          have n4 := (N'.out.cell 4).trans rfl
          have n5 := (N'.out.cell 5).trans rfl
          have n6 := (N'.out.cell 6).trans rfl
          have n7 := (N'.out.cell 7).trans rfl
          have n8 := (N'.out.cell 8).trans rfl
          have B := Lib.hid B'.out
          have N := Lib.hid N'.out
          clear B' N'
          go_wp2_with fail
          refine (HPR.out _).mono ?_
          rintro e w' ⟨rfl, hb⟩
          have B' := Lib.hid (B.out.trans (hb.mono B.out.size))
          have N' := Lib.hid (N.out.below hb N.out.lt)
          clear n0 n1 n2 n3 n4 n5 n6 n7 n8 hb B N
          have n0 := (N'.out.cell 0).trans rfl
          have n1 := (N'.out.cell 1).trans rfl
          have n2 := (N'.out.cell 2).trans rfl
          have n3 := (N'.out.cell 3).trans rfl
          have n4 := (N'.out.cell 4).trans rfl
          have n5 := (N'.out.cell 5).trans rfl
          have n6 := (N'.out.cell 6).trans rfl
          have n7 := (N'.out.cell 7).trans rfl
          have n8 := (N'.out.cell 8).trans rfl
          have B := Lib.hid B'.out
          have N := Lib.hid N'.out
          clear B' N'
          go_wp2_with fail
          refine (HW1.out _).mono ?_
          rintro e w' ⟨rfl, hb⟩
          have B' := Lib.hid (B.out.trans (hb.mono B.out.size))
          have N' := Lib.hid (N.out.below hb N.out.lt)
          clear n0 n1 n2 n3 n4 n5 n6 n7 n8 hb B N
          have n0 := (N'.out.cell 0).trans rfl
          have n1 := (N'.out.cell 1).trans rfl
          have n2 := (N'.out.cell 2).trans rfl
          have n3 := (N'.out.cell 3).trans rfl
          have n4 := (N'.out.cell 4).trans rfl
          have n5 := (N'.out.cell 5).trans rfl
          have n6 := (N'.out.cell 6).trans rfl
          have n7 := (N'.out.cell 7).trans rfl
          have n8 := (N'.out.cell 8).trans rfl
          have B := Lib.hid B'.out
          have N := Lib.hid N'.out
          clear B' N'
          go_wp2_with fail
          refine (HW2.out _).mono ?_
          rintro e w' ⟨rfl, hb⟩
          have B' := Lib.hid (B.out.trans (hb.mono B.out.size))
          have N' := Lib.hid (N.out.below hb N.out.lt)
          clear n0 n1 n2 n3 n4 n5 n6 n7 n8 hb B N
          have n0 := (N'.out.cell 0).trans rfl
          have n1 := (N'.out.cell 1).trans rfl
          have n2 := (N'.out.cell 2).trans rfl
          have n3 := (N'.out.cell 3).trans rfl
          have n4 := (N'.out.cell 4).trans rfl
          have n5 := (N'.out.cell 5).trans rfl
          have n6 := (N'.out.cell 6).trans rfl
          have n7 := (N'.out.cell 7).trans rfl
          have n8 := (N'.out.cell 8).trans rfl
          have B := Lib.hid B'.out
          have N := Lib.hid N'.out
          clear B' N'
          go_wp2_with fail
          refine (HW3.out _).mono ?_
          rintro e w' ⟨rfl, hb⟩
          have B' := Lib.hid (B.out.trans (hb.mono B.out.size))
          have N' := Lib.hid (N.out.below hb N.out.lt)
          clear n0 n1 n2 n3 n4 n5 n6 n7 n8 hb B N
          have n0 := (N'.out.cell 0).trans rfl
          have n1 := (N'.out.cell 1).trans rfl
          have n2 := (N'.out.cell 2).trans rfl
          have n3 := (N'.out.cell 3).trans rfl
          have n4 := (N'.out.cell 4).trans rfl
          have n5 := (N'.out.cell 5).trans rfl
          have n6 := (N'.out.cell 6).trans rfl
          have n7 := (N'.out.cell 7).trans rfl
          have n8 := (N'.out.cell 8).trans rfl
          have B := Lib.hid B'.out
          have N := Lib.hid N'.out
          clear B' N'
          go_wp2_with fail
          go_ret
          exact ⟨HR.out, B.out⟩
        · rw [h3] at HR HW3
          cases h4 : actOk n s
          · rw [h4] at HR HW4
            go_enter Tryz.func9, Tryz.ntmps9
            go_wp2_with fail
            refine (HCO.out _).mono ?_
            rintro e w' ⟨rfl, hb⟩
            have B' := Lib.hid (B.out.trans (hb.mono B.out.size))
            have N' := Lib.hid (N.out.below hb N.out.lt)
            clear n0 n1 n2 n3 n4 n5 n6 n7 n8 hb B N
            have n0 := (N'.out.cell 0).trans rfl
            have n1 := (N'.out.cell 1).trans rfl
            have n2 := (N'.out.cell 2).trans rfl
            have n3 := (N'.out.cell 3).trans rfl
            have n4 := (N'.out.cell 4).trans rfl
            have n5 := (N'.out.cell 5).trans rfl
            have n6 := (N'.out.cell 6).trans rfl
            have n7 := (N'.out.cell 7).trans rfl
            have n8 := (N'.out.cell 8).trans rfl
            have B := Lib.hid B'.out
            have N := Lib.hid N'.out
            clear B' N'
            go_wp2_with fail
            refine (HPR.out _).mono ?_
            rintro e w' ⟨rfl, hb⟩
            have B' := Lib.hid (B.out.trans (hb.mono B.out.size))
            have N' := Lib.hid (N.out.below hb N.out.lt)
            clear n0 n1 n2 n3 n4 n5 n6 n7 n8 hb B N
            have n0 := (N'.out.cell 0).trans rfl
            have n1 := (N'.out.cell 1).trans rfl
            have n2 := (N'.out.cell 2).trans rfl
            have n3 := (N'.out.cell 3).trans rfl
            have n4 := (N'.out.cell 4).trans rfl
            have n5 := (N'.out.cell 5).trans rfl
            have n6 := (N'.out.cell 6).trans rfl
            have n7 := (N'.out.cell 7).trans rfl
            have n8 := (N'.out.cell 8).trans rfl
            have B := Lib.hid B'.out
            have N := Lib.hid N'.out
            clear B' N'
            go_wp2_with fail
            refine (HW1.out _).mono ?_
            rintro e w' ⟨rfl, hb⟩
            have B' := Lib.hid (B.out.trans (hb.mono B.out.size))
            have N' := Lib.hid (N.out.below hb N.out.lt)
            clear n0 n1 n2 n3 n4 n5 n6 n7 n8 hb B N
            have n0 := (N'.out.cell 0).trans rfl
            have n1 := (N'.out.cell 1).trans rfl
            have n2 := (N'.out.cell 2).trans rfl
            have n3 := (N'.out.cell 3).trans rfl
            have n4 := (N'.out.cell 4).trans rfl
            have n5 := (N'.out.cell 5).trans rfl
            have n6 := (N'.out.cell 6).trans rfl
            have n7 := (N'.out.cell 7).trans rfl
            have n8 := (N'.out.cell 8).trans rfl
            have B := Lib.hid B'.out
            have N := Lib.hid N'.out
            clear B' N'
            go_wp2_with fail
            refine (HW2.out _).mono ?_
            rintro e w' ⟨rfl, hb⟩
            have B' := Lib.hid (B.out.trans (hb.mono B.out.size))
            have N' := Lib.hid (N.out.below hb N.out.lt)
            clear n0 n1 n2 n3 n4 n5 n6 n7 n8 hb B N
            have n0 := (N'.out.cell 0).trans rfl
            have n1 := (N'.out.cell 1).trans rfl
            have n2 := (N'.out.cell 2).trans rfl
            have n3 := (N'.out.cell 3).trans rfl
            have n4 := (N'.out.cell 4).trans rfl
            have n5 := (N'.out.cell 5).trans rfl
            have n6 := (N'.out.cell 6).trans rfl
            have n7 := (N'.out.cell 7).trans rfl
            have n8 := (N'.out.cell 8).trans rfl
            have B := Lib.hid B'.out
            have N := Lib.hid N'.out
            clear B' N'
            go_wp2_with fail
            refine (HW3.out _).mono ?_
            rintro e w' ⟨rfl, hb⟩
            have B' := Lib.hid (B.out.trans (hb.mono B.out.size))
            have N' := Lib.hid (N.out.below hb N.out.lt)
            clear n0 n1 n2 n3 n4 n5 n6 n7 n8 hb B N
            have n0 := (N'.out.cell 0).trans rfl
            have n1 := (N'.out.cell 1).trans rfl
            have n2 := (N'.out.cell 2).trans rfl
            have n3 := (N'.out.cell 3).trans rfl
            have n4 := (N'.out.cell 4).trans rfl
            have n5 := (N'.out.cell 5).trans rfl
            have n6 := (N'.out.cell 6).trans rfl
            have n7 := (N'.out.cell 7).trans rfl
            have n8 := (N'.out.cell 8).trans rfl
            have B := Lib.hid B'.out
            have N := Lib.hid N'.out
            clear B' N'
            go_wp2_with fail
            refine (HW4.out _ (HG.out _ B.out)).mono ?_
            rintro e w' ⟨rfl, hb⟩
            have B' := Lib.hid (B.out.trans (hb.mono B.out.size))
            have N' := Lib.hid (N.out.below hb N.out.lt)
            clear n0 n1 n2 n3 n4 n5 n6 n7 n8 hb B N
            have n0 := (N'.out.cell 0).trans rfl
            have n1 := (N'.out.cell 1).trans rfl
            have n2 := (N'.out.cell 2).trans rfl
            have n3 := (N'.out.cell 3).trans rfl
            have n4 := (N'.out.cell 4).trans rfl
            have n5 := (N'.out.cell 5).trans rfl
            have n6 := (N'.out.cell 6).trans rfl
            have n7 := (N'.out.cell 7).trans rfl
            have n8 := (N'.out.cell 8).trans rfl
            have B := Lib.hid B'.out
            have N := Lib.hid N'.out
            clear B' N'
            go_wp2_with fail
            go_ret
            exact ⟨HR.out, B.out⟩
          · rw [h4] at HR HW4
            cases h5 : inR r 0 0
            · rw [h5] at HR HW5
              go_enter Tryz.func9, Tryz.ntmps9
              go_wp2_with fail
              refine (HCO.out _).mono ?_
              rintro e w' ⟨rfl, hb⟩
              have B' := Lib.hid (B.out.trans (hb.mono B.out.size))
              have N' := Lib.hid (N.out.below hb N.out.lt)
              clear n0 n1 n2 n3 n4 n5 n6 n7 n8 hb B N
              have n0 := (N'.out.cell 0).trans rfl
              have n1 := (N'.out.cell 1).trans rfl
              have n2 := (N'.out.cell 2).trans rfl
              have n3 := (N'.out.cell 3).trans rfl
              have n4 := (N'.out.cell 4).trans rfl
              have n5 := (N'.out.cell 5).trans rfl
              have n6 := (N'.out.cell 6).trans rfl
              have n7 := (N'.out.cell 7).trans rfl
              have n8 := (N'.out.cell 8).trans rfl
              have B := Lib.hid B'.out
              have N := Lib.hid N'.out
              clear B' N'
              go_wp2_with fail
              refine (HPR.out _).mono ?_
              rintro e w' ⟨rfl, hb⟩
              have B' := Lib.hid (B.out.trans (hb.mono B.out.size))
              have N' := Lib.hid (N.out.below hb N.out.lt)
              clear n0 n1 n2 n3 n4 n5 n6 n7 n8 hb B N
              have n0 := (N'.out.cell 0).trans rfl
              have n1 := (N'.out.cell 1).trans rfl
              have n2 := (N'.out.cell 2).trans rfl
              have n3 := (N'.out.cell 3).trans rfl
              have n4 := (N'.out.cell 4).trans rfl
              have n5 := (N'.out.cell 5).trans rfl
              have n6 := (N'.out.cell 6).trans rfl
              have n7 := (N'.out.cell 7).trans rfl
              have n8 := (N'.out.cell 8).trans rfl
              have B := Lib.hid B'.out
              have N := Lib.hid N'.out
              clear B' N'
              go_wp2_with fail
              refine (HW1.out _).mono ?_
              rintro e w' ⟨rfl, hb⟩
              have B' := Lib.hid (B.out.trans (hb.mono B.out.size))
              have N' := Lib.hid (N.out.below hb N.out.lt)
              clear n0 n1 n2 n3 n4 n5 n6 n7 n8 hb B N
              have n0 := (N'.out.cell 0).trans rfl
              have n1 := (N'.out.cell 1).trans rfl
              have n2 := (N'.out.cell 2).trans rfl
              have n3 := (N'.out.cell 3).trans rfl
              have n4 := (N'.out.cell 4).trans rfl
              have n5 := (N'.out.cell 5).trans rfl
              have n6 := (N'.out.cell 6).trans rfl
              have n7 := (N'.out.cell 7).trans rfl
              have n8 := (N'.out.cell 8).trans rfl
              have B := Lib.hid B'.out
              have N := Lib.hid N'.out
              clear B' N'
              go_wp2_with fail
              refine (HW2.out _).mono ?_
              rintro e w' ⟨rfl, hb⟩
              have B' := Lib.hid (B.out.trans (hb.mono B.out.size))
              have N' := Lib.hid (N.out.below hb N.out.lt)
              clear n0 n1 n2 n3 n4 n5 n6 n7 n8 hb B N
              have n0 := (N'.out.cell 0).trans rfl
              have n1 := (N'.out.cell 1).trans rfl
              have n2 := (N'.out.cell 2).trans rfl
              have n3 := (N'.out.cell 3).trans rfl
              have n4 := (N'.out.cell 4).trans rfl
              have n5 := (N'.out.cell 5).trans rfl
              have n6 := (N'.out.cell 6).trans rfl
              have n7 := (N'.out.cell 7).trans rfl
              have n8 := (N'.out.cell 8).trans rfl
              have B := Lib.hid B'.out
              have N := Lib.hid N'.out
              clear B' N'
              go_wp2_with fail
              refine (HW3.out _).mono ?_
              rintro e w' ⟨rfl, hb⟩
              have B' := Lib.hid (B.out.trans (hb.mono B.out.size))
              have N' := Lib.hid (N.out.below hb N.out.lt)
              clear n0 n1 n2 n3 n4 n5 n6 n7 n8 hb B N
              have n0 := (N'.out.cell 0).trans rfl
              have n1 := (N'.out.cell 1).trans rfl
              have n2 := (N'.out.cell 2).trans rfl
              have n3 := (N'.out.cell 3).trans rfl
              have n4 := (N'.out.cell 4).trans rfl
              have n5 := (N'.out.cell 5).trans rfl
              have n6 := (N'.out.cell 6).trans rfl
              have n7 := (N'.out.cell 7).trans rfl
              have n8 := (N'.out.cell 8).trans rfl
              have B := Lib.hid B'.out
              have N := Lib.hid N'.out
              clear B' N'
              go_wp2_with fail
              refine (HW4.out _ (HG.out _ B.out)).mono ?_
              rintro e w' ⟨rfl, hb⟩
              have B' := Lib.hid (B.out.trans (hb.mono B.out.size))
              have N' := Lib.hid (N.out.below hb N.out.lt)
              clear n0 n1 n2 n3 n4 n5 n6 n7 n8 hb B N
              have n0 := (N'.out.cell 0).trans rfl
              have n1 := (N'.out.cell 1).trans rfl
              have n2 := (N'.out.cell 2).trans rfl
              have n3 := (N'.out.cell 3).trans rfl
              have n4 := (N'.out.cell 4).trans rfl
              have n5 := (N'.out.cell 5).trans rfl
              have n6 := (N'.out.cell 6).trans rfl
              have n7 := (N'.out.cell 7).trans rfl
              have n8 := (N'.out.cell 8).trans rfl
              have B := Lib.hid B'.out
              have N := Lib.hid N'.out
              clear B' N'
              go_wp2_with fail
              refine (HW5.out _).mono ?_
              rintro e w' ⟨rfl, hb⟩
              have B' := Lib.hid (B.out.trans (hb.mono B.out.size))
              have N' := Lib.hid (N.out.below hb N.out.lt)
              clear n0 n1 n2 n3 n4 n5 n6 n7 n8 hb B N
              have n0 := (N'.out.cell 0).trans rfl
              have n1 := (N'.out.cell 1).trans rfl
              have n2 := (N'.out.cell 2).trans rfl
              have n3 := (N'.out.cell 3).trans rfl
              have n4 := (N'.out.cell 4).trans rfl
              have n5 := (N'.out.cell 5).trans rfl
              have n6 := (N'.out.cell 6).trans rfl
              have n7 := (N'.out.cell 7).trans rfl
              have n8 := (N'.out.cell 8).trans rfl
              have B := Lib.hid B'.out
              have N := Lib.hid N'.out
              clear B' N'
              go_wp2_with fail
              go_ret
              exact ⟨HR.out, B.out⟩
            · rw [h5] at HR HW5
              cases h6 : inR p 0 7
              · rw [h6] at HR HW6
                go_enter Tryz.func9, Tryz.ntmps9
                go_wp2_with fail
                refine (HCO.out _).mono ?_
                rintro e w' ⟨rfl, hb⟩
                have B' := Lib.hid (B.out.trans (hb.mono B.out.size))
                have N' := Lib.hid (N.out.below hb N.out.lt)
                clear n0 n1 n2 n3 n4 n5 n6 n7 n8 hb B N
                have n0 := (N'.out.cell 0).trans rfl
                have n1 := (N'.out.cell 1).trans rfl
                have n2 := (N'.out.cell 2).trans rfl
                have n3 := (N'.out.cell 3).trans rfl
                have n4 := (N'.out.cell 4).trans rfl
                have n5 := (N'.out.cell 5).trans rfl
                have n6 := (N'.out.cell 6).trans rfl
                have n7 := (N'.out.cell 7).trans rfl
                have n8 := (N'.out.cell 8).trans rfl
                have B := Lib.hid B'.out
                have N := Lib.hid N'.out
                clear B' N'
                go_wp2_with fail
                refine (HPR.out _).mono ?_
                rintro e w' ⟨rfl, hb⟩
                have B' := Lib.hid (B.out.trans (hb.mono B.out.size))
                have N' := Lib.hid (N.out.below hb N.out.lt)
                clear n0 n1 n2 n3 n4 n5 n6 n7 n8 hb B N
                have n0 := (N'.out.cell 0).trans rfl
                have n1 := (N'.out.cell 1).trans rfl
                have n2 := (N'.out.cell 2).trans rfl
                have n3 := (N'.out.cell 3).trans rfl
                have n4 := (N'.out.cell 4).trans rfl
                have n5 := (N'.out.cell 5).trans rfl
                have n6 := (N'.out.cell 6).trans rfl
                have n7 := (N'.out.cell 7).trans rfl
                have n8 := (N'.out.cell 8).trans rfl
                have B := Lib.hid B'.out
                have N := Lib.hid N'.out
                clear B' N'
                go_wp2_with fail
                refine (HW1.out _).mono ?_
                rintro e w' ⟨rfl, hb⟩
                have B' := Lib.hid (B.out.trans (hb.mono B.out.size))
                have N' := Lib.hid (N.out.below hb N.out.lt)
                clear n0 n1 n2 n3 n4 n5 n6 n7 n8 hb B N
                have n0 := (N'.out.cell 0).trans rfl
                have n1 := (N'.out.cell 1).trans rfl
                have n2 := (N'.out.cell 2).trans rfl
                have n3 := (N'.out.cell 3).trans rfl
                have n4 := (N'.out.cell 4).trans rfl
                have n5 := (N'.out.cell 5).trans rfl
                have n6 := (N'.out.cell 6).trans rfl
                have n7 := (N'.out.cell 7).trans rfl
                have n8 := (N'.out.cell 8).trans rfl
                have B := Lib.hid B'.out
                have N := Lib.hid N'.out
                clear B' N'
                go_wp2_with fail
                refine (HW2.out _).mono ?_
                rintro e w' ⟨rfl, hb⟩
                have B' := Lib.hid (B.out.trans (hb.mono B.out.size))
                have N' := Lib.hid (N.out.below hb N.out.lt)
                clear n0 n1 n2 n3 n4 n5 n6 n7 n8 hb B N
                have n0 := (N'.out.cell 0).trans rfl
                have n1 := (N'.out.cell 1).trans rfl
                have n2 := (N'.out.cell 2).trans rfl
                have n3 := (N'.out.cell 3).trans rfl
                have n4 := (N'.out.cell 4).trans rfl
                have n5 := (N'.out.cell 5).trans rfl
                have n6 := (N'.out.cell 6).trans rfl
                have n7 := (N'.out.cell 7).trans rfl
                have n8 := (N'.out.cell 8).trans rfl
                have B := Lib.hid B'.out
                have N := Lib.hid N'.out
                clear B' N'
                go_wp2_with fail
                refine (HW3.out _).mono ?_
                rintro e w' ⟨rfl, hb⟩
                have B' := Lib.hid (B.out.trans (hb.mono B.out.size))
                have N' := Lib.hid (N.out.below hb N.out.lt)
                clear n0 n1 n2 n3 n4 n5 n6 n7 n8 hb B N
                have n0 := (N'.out.cell 0).trans rfl
                have n1 := (N'.out.cell 1).trans rfl
                have n2 := (N'.out.cell 2).trans rfl
                have n3 := (N'.out.cell 3).trans rfl
                have n4 := (N'.out.cell 4).trans rfl
                have n5 := (N'.out.cell 5).trans rfl
                have n6 := (N'.out.cell 6).trans rfl
                have n7 := (N'.out.cell 7).trans rfl
                have n8 := (N'.out.cell 8).trans rfl
                have B := Lib.hid B'.out
                have N := Lib.hid N'.out
                clear B' N'
                go_wp2_with fail
                refine (HW4.out _ (HG.out _ B.out)).mono ?_
                rintro e w' ⟨rfl, hb⟩
                have B' := Lib.hid (B.out.trans (hb.mono B.out.size))
                have N' := Lib.hid (N.out.below hb N.out.lt)
                clear n0 n1 n2 n3 n4 n5 n6 n7 n8 hb B N
                have n0 := (N'.out.cell 0).trans rfl
                have n1 := (N'.out.cell 1).trans rfl
                have n2 := (N'.out.cell 2).trans rfl
                have n3 := (N'.out.cell 3).trans rfl
                have n4 := (N'.out.cell 4).trans rfl
                have n5 := (N'.out.cell 5).trans rfl
                have n6 := (N'.out.cell 6).trans rfl
                have n7 := (N'.out.cell 7).trans rfl
                have n8 := (N'.out.cell 8).trans rfl
                have B := Lib.hid B'.out
                have N := Lib.hid N'.out
                clear B' N'
                go_wp2_with fail
                refine (HW5.out _).mono ?_
                rintro e w' ⟨rfl, hb⟩
                have B' := Lib.hid (B.out.trans (hb.mono B.out.size))
                have N' := Lib.hid (N.out.below hb N.out.lt)
                clear n0 n1 n2 n3 n4 n5 n6 n7 n8 hb B N
                have n0 := (N'.out.cell 0).trans rfl
                have n1 := (N'.out.cell 1).trans rfl
                have n2 := (N'.out.cell 2).trans rfl
                have n3 := (N'.out.cell 3).trans rfl
                have n4 := (N'.out.cell 4).trans rfl
                have n5 := (N'.out.cell 5).trans rfl
                have n6 := (N'.out.cell 6).trans rfl
                have n7 := (N'.out.cell 7).trans rfl
                have n8 := (N'.out.cell 8).trans rfl
                have B := Lib.hid B'.out
                have N := Lib.hid N'.out
                clear B' N'
                go_wp2_with fail
                refine (HW6.out _).mono ?_
                rintro e w' ⟨rfl, hb⟩
                have B' := Lib.hid (B.out.trans (hb.mono B.out.size))
                have N' := Lib.hid (N.out.below hb N.out.lt)
                clear n0 n1 n2 n3 n4 n5 n6 n7 n8 hb B N
                have n0 := (N'.out.cell 0).trans rfl
                have n1 := (N'.out.cell 1).trans rfl
                have n2 := (N'.out.cell 2).trans rfl
                have n3 := (N'.out.cell 3).trans rfl
                have n4 := (N'.out.cell 4).trans rfl
                have n5 := (N'.out.cell 5).trans rfl
                have n6 := (N'.out.cell 6).trans rfl
                have n7 := (N'.out.cell 7).trans rfl
                have n8 := (N'.out.cell 8).trans rfl
                have B := Lib.hid B'.out
                have N := Lib.hid N'.out
                clear B' N'
                go_wp2_with fail
                go_ret
                exact ⟨HR.out, B.out⟩
              · rw [h6] at HR HW6
                cases h7 : inR q ql qh
                · rw [h7] at HR HW7
                  go_enter Tryz.func9, Tryz.ntmps9
                  go_wp2_with fail
                  refine (HCO.out _).mono ?_
                  rintro e w' ⟨rfl, hb⟩
                  have B' := Lib.hid (B.out.trans (hb.mono B.out.size))
                  have N' := Lib.hid (N.out.below hb N.out.lt)
                  clear n0 n1 n2 n3 n4 n5 n6 n7 n8 hb B N
                  have n0 := (N'.out.cell 0).trans rfl
                  have n1 := (N'.out.cell 1).trans rfl
                  have n2 := (N'.out.cell 2).trans rfl
                  have n3 := (N'.out.cell 3).trans rfl
                  have n4 := (N'.out.cell 4).trans rfl
                  have n5 := (N'.out.cell 5).trans rfl
                  have n6 := (N'.out.cell 6).trans rfl
                  have n7 := (N'.out.cell 7).trans rfl
                  have n8 := (N'.out.cell 8).trans rfl
                  have B := Lib.hid B'.out
                  have N := Lib.hid N'.out
                  clear B' N'
                  go_wp2_with fail
                  refine (HPR.out _).mono ?_
                  rintro e w' ⟨rfl, hb⟩
                  have B' := Lib.hid (B.out.trans (hb.mono B.out.size))
                  have N' := Lib.hid (N.out.below hb N.out.lt)
                  clear n0 n1 n2 n3 n4 n5 n6 n7 n8 hb B N
                  have n0 := (N'.out.cell 0).trans rfl
                  have n1 := (N'.out.cell 1).trans rfl
                  have n2 := (N'.out.cell 2).trans rfl
                  have n3 := (N'.out.cell 3).trans rfl
                  have n4 := (N'.out.cell 4).trans rfl
                  have n5 := (N'.out.cell 5).trans rfl
                  have n6 := (N'.out.cell 6).trans rfl
                  have n7 := (N'.out.cell 7).trans rfl
                  have n8 := (N'.out.cell 8).trans rfl
                  have B := Lib.hid B'.out
                  have N := Lib.hid N'.out
                  clear B' N'
                  go_wp2_with fail
                  refine (HW1.out _).mono ?_
                  rintro e w' ⟨rfl, hb⟩
                  have B' := Lib.hid (B.out.trans (hb.mono B.out.size))
                  have N' := Lib.hid (N.out.below hb N.out.lt)
                  clear n0 n1 n2 n3 n4 n5 n6 n7 n8 hb B N
                  have n0 := (N'.out.cell 0).trans rfl
                  have n1 := (N'.out.cell 1).trans rfl
                  have n2 := (N'.out.cell 2).trans rfl
                  have n3 := (N'.out.cell 3).trans rfl
                  have n4 := (N'.out.cell 4).trans rfl
                  have n5 := (N'.out.cell 5).trans rfl
                  have n6 := (N'.out.cell 6).trans rfl
                  have n7 := (N'.out.cell 7).trans rfl
                  have n8 := (N'.out.cell 8).trans rfl
                  have B := Lib.hid B'.out
                  have N := Lib.hid N'.out
                  clear B' N'
                  go_wp2_with fail
                  refine (HW2.out _).mono ?_
                  rintro e w' ⟨rfl, hb⟩
                  have B' := Lib.hid (B.out.trans (hb.mono B.out.size))
                  have N' := Lib.hid (N.out.below hb N.out.lt)
                  clear n0 n1 n2 n3 n4 n5 n6 n7 n8 hb B N
                  have n0 := (N'.out.cell 0).trans rfl
                  have n1 := (N'.out.cell 1).trans rfl
                  have n2 := (N'.out.cell 2).trans rfl
                  have n3 := (N'.out.cell 3).trans rfl
                  have n4 := (N'.out.cell 4).trans rfl
                  have n5 := (N'.out.cell 5).trans rfl
                  have n6 := (N'.out.cell 6).trans rfl
                  have n7 := (N'.out.cell 7).trans rfl
                  have n8 := (N'.out.cell 8).trans rfl
                  have B := Lib.hid B'.out
                  have N := Lib.hid N'.out
                  clear B' N'
                  go_wp2_with fail
                  refine (HW3.out _).mono ?_
                  rintro e w' ⟨rfl, hb⟩
                  have B' := Lib.hid (B.out.trans (hb.mono B.out.size))
                  have N' := Lib.hid (N.out.below hb N.out.lt)
                  clear n0 n1 n2 n3 n4 n5 n6 n7 n8 hb B N
                  have n0 := (N'.out.cell 0).trans rfl
                  have n1 := (N'.out.cell 1).trans rfl
                  have n2 := (N'.out.cell 2).trans rfl
                  have n3 := (N'.out.cell 3).trans rfl
                  have n4 := (N'.out.cell 4).trans rfl
                  have n5 := (N'.out.cell 5).trans rfl
                  have n6 := (N'.out.cell 6).trans rfl
                  have n7 := (N'.out.cell 7).trans rfl
                  have n8 := (N'.out.cell 8).trans rfl
                  have B := Lib.hid B'.out
                  have N := Lib.hid N'.out
                  clear B' N'
                  go_wp2_with fail
                  refine (HW4.out _ (HG.out _ B.out)).mono ?_
                  rintro e w' ⟨rfl, hb⟩
                  have B' := Lib.hid (B.out.trans (hb.mono B.out.size))
                  have N' := Lib.hid (N.out.below hb N.out.lt)
                  clear n0 n1 n2 n3 n4 n5 n6 n7 n8 hb B N
                  have n0 := (N'.out.cell 0).trans rfl
                  have n1 := (N'.out.cell 1).trans rfl
                  have n2 := (N'.out.cell 2).trans rfl
                  have n3 := (N'.out.cell 3).trans rfl
                  have n4 := (N'.out.cell 4).trans rfl
                  have n5 := (N'.out.cell 5).trans rfl
                  have n6 := (N'.out.cell 6).trans rfl
                  have n7 := (N'.out.cell 7).trans rfl
                  have n8 := (N'.out.cell 8).trans rfl
                  have B := Lib.hid B'.out
                  have N := Lib.hid N'.out
                  clear B' N'
                  go_wp2_with fail
                  refine (HW5.out _).mono ?_
                  rintro e w' ⟨rfl, hb⟩
                  have B' := Lib.hid (B.out.trans (hb.mono B.out.size))
                  have N' := Lib.hid (N.out.below hb N.out.lt)
                  clear n0 n1 n2 n3 n4 n5 n6 n7 n8 hb B N
                  have n0 := (N'.out.cell 0).trans rfl
                  have n1 := (N'.out.cell 1).trans rfl
                  have n2 := (N'.out.cell 2).trans rfl
                  have n3 := (N'.out.cell 3).trans rfl
                  have n4 := (N'.out.cell 4).trans rfl
                  have n5 := (N'.out.cell 5).trans rfl
                  have n6 := (N'.out.cell 6).trans rfl
                  have n7 := (N'.out.cell 7).trans rfl
                  have n8 := (N'.out.cell 8).trans rfl
                  have B := Lib.hid B'.out
                  have N := Lib.hid N'.out
                  clear B' N'
                  go_wp2_with fail
                  refine (HW6.out _).mono ?_
                  rintro e w' ⟨rfl, hb⟩
                  have B' := Lib.hid (B.out.trans (hb.mono B.out.size))
                  have N' := Lib.hid (N.out.below hb N.out.lt)
                  clear n0 n1 n2 n3 n4 n5 n6 n7 n8 hb B N
                  have n0 := (N'.out.cell 0).trans rfl
                  have n1 := (N'.out.cell 1).trans rfl
                  have n2 := (N'.out.cell 2).trans rfl
                  have n3 := (N'.out.cell 3).trans rfl
                  have n4 := (N'.out.cell 4).trans rfl
                  have n5 := (N'.out.cell 5).trans rfl
                  have n6 := (N'.out.cell 6).trans rfl
                  have n7 := (N'.out.cell 7).trans rfl
                  have n8 := (N'.out.cell 8).trans rfl
                  have B := Lib.hid B'.out
                  have N := Lib.hid N'.out
                  clear B' N'
                  go_wp2_with fail
                  refine (HW7.out _).mono ?_
                  rintro e w' ⟨rfl, hb⟩
                  have B' := Lib.hid (B.out.trans (hb.mono B.out.size))
                  have N' := Lib.hid (N.out.below hb N.out.lt)
                  clear n0 n1 n2 n3 n4 n5 n6 n7 n8 hb B N
                  have n0 := (N'.out.cell 0).trans rfl
                  have n1 := (N'.out.cell 1).trans rfl
                  have n2 := (N'.out.cell 2).trans rfl
                  have n3 := (N'.out.cell 3).trans rfl
                  have n4 := (N'.out.cell 4).trans rfl
                  have n5 := (N'.out.cell 5).trans rfl
                  have n6 := (N'.out.cell 6).trans rfl
                  have n7 := (N'.out.cell 7).trans rfl
                  have n8 := (N'.out.cell 8).trans rfl
                  have B := Lib.hid B'.out
                  have N := Lib.hid N'.out
                  clear B' N'
                  go_wp2_with fail
                  go_ret
                  exact ⟨HR.out, B.out⟩
                · rw [h7] at HR HW7
                  go_enter Tryz.func9, Tryz.ntmps9
                  go_wp2_with fail
                  refine (HCO.out _).mono ?_
                  rintro e w' ⟨rfl, hb⟩
                  have B' := Lib.hid (B.out.trans (hb.mono B.out.size))
                  have N' := Lib.hid (N.out.below hb N.out.lt)
                  clear n0 n1 n2 n3 n4 n5 n6 n7 n8 hb B N
                  have n0 := (N'.out.cell 0).trans rfl
                  have n1 := (N'.out.cell 1).trans rfl
                  have n2 := (N'.out.cell 2).trans rfl
                  have n3 := (N'.out.cell 3).trans rfl
                  have n4 := (N'.out.cell 4).trans rfl
                  have n5 := (N'.out.cell 5).trans rfl
                  have n6 := (N'.out.cell 6).trans rfl
                  have n7 := (N'.out.cell 7).trans rfl
                  have n8 := (N'.out.cell 8).trans rfl
                  have B := Lib.hid B'.out
                  have N := Lib.hid N'.out
                  clear B' N'
                  go_wp2_with fail
                  refine (HPR.out _).mono ?_
                  rintro e w' ⟨rfl, hb⟩
                  have B' := Lib.hid (B.out.trans (hb.mono B.out.size))
                  have N' := Lib.hid (N.out.below hb N.out.lt)
                  clear n0 n1 n2 n3 n4 n5 n6 n7 n8 hb B N
                  have n0 := (N'.out.cell 0).trans rfl
                  have n1 := (N'.out.cell 1).trans rfl
                  have n2 := (N'.out.cell 2).trans rfl
                  have n3 := (N'.out.cell 3).trans rfl
                  have n4 := (N'.out.cell 4).trans rfl
                  have n5 := (N'.out.cell 5).trans rfl
                  have n6 := (N'.out.cell 6).trans rfl
                  have n7 := (N'.out.cell 7).trans rfl
                  have n8 := (N'.out.cell 8).trans rfl
                  have B := Lib.hid B'.out
                  have N := Lib.hid N'.out
                  clear B' N'
                  go_wp2_with fail
                  refine (HW1.out _).mono ?_
                  rintro e w' ⟨rfl, hb⟩
                  have B' := Lib.hid (B.out.trans (hb.mono B.out.size))
                  have N' := Lib.hid (N.out.below hb N.out.lt)
                  clear n0 n1 n2 n3 n4 n5 n6 n7 n8 hb B N
                  have n0 := (N'.out.cell 0).trans rfl
                  have n1 := (N'.out.cell 1).trans rfl
                  have n2 := (N'.out.cell 2).trans rfl
                  have n3 := (N'.out.cell 3).trans rfl
                  have n4 := (N'.out.cell 4).trans rfl
                  have n5 := (N'.out.cell 5).trans rfl
                  have n6 := (N'.out.cell 6).trans rfl
                  have n7 := (N'.out.cell 7).trans rfl
                  have n8 := (N'.out.cell 8).trans rfl
                  have B := Lib.hid B'.out
                  have N := Lib.hid N'.out
                  clear B' N'
                  go_wp2_with fail
                  refine (HW2.out _).mono ?_
                  rintro e w' ⟨rfl, hb⟩
                  have B' := Lib.hid (B.out.trans (hb.mono B.out.size))
                  have N' := Lib.hid (N.out.below hb N.out.lt)
                  clear n0 n1 n2 n3 n4 n5 n6 n7 n8 hb B N
                  have n0 := (N'.out.cell 0).trans rfl
                  have n1 := (N'.out.cell 1).trans rfl
                  have n2 := (N'.out.cell 2).trans rfl
                  have n3 := (N'.out.cell 3).trans rfl
                  have n4 := (N'.out.cell 4).trans rfl
                  have n5 := (N'.out.cell 5).trans rfl
                  have n6 := (N'.out.cell 6).trans rfl
                  have n7 := (N'.out.cell 7).trans rfl
                  have n8 := (N'.out.cell 8).trans rfl
                  have B := Lib.hid B'.out
                  have N := Lib.hid N'.out
                  clear B' N'
                  go_wp2_with fail
                  refine (HW3.out _).mono ?_
                  rintro e w' ⟨rfl, hb⟩
                  have B' := Lib.hid (B.out.trans (hb.mono B.out.size))
                  have N' := Lib.hid (N.out.below hb N.out.lt)
                  clear n0 n1 n2 n3 n4 n5 n6 n7 n8 hb B N
                  have n0 := (N'.out.cell 0).trans rfl
                  have n1 := (N'.out.cell 1).trans rfl
                  have n2 := (N'.out.cell 2).trans rfl
                  have n3 := (N'.out.cell 3).trans rfl
                  have n4 := (N'.out.cell 4).trans rfl
                  have n5 := (N'.out.cell 5).trans rfl
                  have n6 := (N'.out.cell 6).trans rfl
                  have n7 := (N'.out.cell 7).trans rfl
                  have n8 := (N'.out.cell 8).trans rfl
                  have B := Lib.hid B'.out
                  have N := Lib.hid N'.out
                  clear B' N'
                  go_wp2_with fail
                  refine (HW4.out _ (HG.out _ B.out)).mono ?_
                  rintro e w' ⟨rfl, hb⟩
                  have B' := Lib.hid (B.out.trans (hb.mono B.out.size))
                  have N' := Lib.hid (N.out.below hb N.out.lt)
                  clear n0 n1 n2 n3 n4 n5 n6 n7 n8 hb B N
                  have n0 := (N'.out.cell 0).trans rfl
                  have n1 := (N'.out.cell 1).trans rfl
                  have n2 := (N'.out.cell 2).trans rfl
                  have n3 := (N'.out.cell 3).trans rfl
                  have n4 := (N'.out.cell 4).trans rfl
                  have n5 := (N'.out.cell 5).trans rfl
                  have n6 := (N'.out.cell 6).trans rfl
                  have n7 := (N'.out.cell 7).trans rfl
                  have n8 := (N'.out.cell 8).trans rfl
                  have B := Lib.hid B'.out
                  have N := Lib.hid N'.out
                  clear B' N'
                  go_wp2_with fail
                  refine (HW5.out _).mono ?_
                  rintro e w' ⟨rfl, hb⟩
                  have B' := Lib.hid (B.out.trans (hb.mono B.out.size))
                  have N' := Lib.hid (N.out.below hb N.out.lt)
                  clear n0 n1 n2 n3 n4 n5 n6 n7 n8 hb B N
                  have n0 := (N'.out.cell 0).trans rfl
                  have n1 := (N'.out.cell 1).trans rfl
                  have n2 := (N'.out.cell 2).trans rfl
                  have n3 := (N'.out.cell 3).trans rfl
                  have n4 := (N'.out.cell 4).trans rfl
                  have n5 := (N'.out.cell 5).trans rfl
                  have n6 := (N'.out.cell 6).trans rfl
                  have n7 := (N'.out.cell 7).trans rfl
                  have n8 := (N'.out.cell 8).trans rfl
                  have B := Lib.hid B'.out
                  have N := Lib.hid N'.out
                  clear B' N'
                  go_wp2_with fail
                  refine (HW6.out _).mono ?_
                  rintro e w' ⟨rfl, hb⟩
                  have B' := Lib.hid (B.out.trans (hb.mono B.out.size))
                  have N' := Lib.hid (N.out.below hb N.out.lt)
                  clear n0 n1 n2 n3 n4 n5 n6 n7 n8 hb B N
                  have n0 := (N'.out.cell 0).trans rfl
                  have n1 := (N'.out.cell 1).trans rfl
                  have n2 := (N'.out.cell 2).trans rfl
                  have n3 := (N'.out.cell 3).trans rfl
                  have n4 := (N'.out.cell 4).trans rfl
                  have n5 := (N'.out.cell 5).trans rfl
                  have n6 := (N'.out.cell 6).trans rfl
                  have n7 := (N'.out.cell 7).trans rfl
                  have n8 := (N'.out.cell 8).trans rfl
                  have B := Lib.hid B'.out
                  have N := Lib.hid N'.out
                  clear B' N'
                  go_wp2_with fail
                  refine (HW7.out _).mono ?_
                  rintro e w' ⟨rfl, hb⟩
                  have B' := Lib.hid (B.out.trans (hb.mono B.out.size))
                  have N' := Lib.hid (N.out.below hb N.out.lt)
                  clear n0 n1 n2 n3 n4 n5 n6 n7 n8 hb B N
                  have n0 := (N'.out.cell 0).trans rfl
                  have n1 := (N'.out.cell 1).trans rfl
                  have n2 := (N'.out.cell 2).trans rfl
                  have n3 := (N'.out.cell 3).trans rfl
                  have n4 := (N'.out.cell 4).trans rfl
                  have n5 := (N'.out.cell 5).trans rfl
                  have n6 := (N'.out.cell 6).trans rfl
                  have n7 := (N'.out.cell 7).trans rfl
                  have n8 := (N'.out.cell 8).trans rfl
                  have B := Lib.hid B'.out
                  have N := Lib.hid N'.out
                  clear B' N'
                  go_wp2_with fail
                  refine (HW8.out _).mono ?_
                  rintro e w' ⟨rfl, hb⟩
                  have B' := Lib.hid (B.out.trans (hb.mono B.out.size))
                  have N' := Lib.hid (N.out.below hb N.out.lt)
                  clear n0 n1 n2 n3 n4 n5 n6 n7 n8 hb B N
                  have n0 := (N'.out.cell 0).trans rfl
                  have n1 := (N'.out.cell 1).trans rfl
                  have n2 := (N'.out.cell 2).trans rfl
                  have n3 := (N'.out.cell 3).trans rfl
                  have n4 := (N'.out.cell 4).trans rfl
                  have n5 := (N'.out.cell 5).trans rfl
                  have n6 := (N'.out.cell 6).trans rfl
                  have n7 := (N'.out.cell 7).trans rfl
                  have n8 := (N'.out.cell 8).trans rfl
                  have B := Lib.hid B'.out
                  have N := Lib.hid N'.out
                  clear B' N'
                  go_wp2_with fail
                  go_ret
                  exact ⟨HR.out, B.out⟩
  · subst h0
    have d1 : (k == 17) = false := by simpa using hk
    clear hk hrh
    cases h1 : inR k 1 19
    · rw [h1] at HR HW1
      go_enter Tryz.func9, Tryz.ntmps9
      go_wp2_with fail
      refine (HCO.out _).mono ?_
      rintro e w' ⟨rfl, hb⟩
      have B' := Lib.hid (B.out.trans (hb.mono B.out.size))
      have N' := Lib.hid (N.out.below hb N.out.lt)
      clear n0 n1 n2 n3 n4 n5 n6 n7 n8 hb B N
      have n0 := (N'.out.cell 0).trans rfl
      have n1 := (N'.out.cell 1).trans rfl
      have n2 := (N'.out.cell 2).trans rfl
      have n3 := (N'.out.cell 3).trans rfl
      have n4 := (N'.out.cell 4).trans rfl
      have n5 := (N'.out.cell 5).trans rfl
      have n6 := (N'.out.cell 6).trans rfl
      have n7 := (N'.out.cell 7).trans rfl
      have n8 := (N'.out.cell 8).trans rfl
      have B := Lib.hid B'.out
      have N := Lib.hid N'.out
      clear B' N'
      go_wp2_with fail
      refine (HPR.out _).mono ?_
      rintro e w' ⟨rfl, hb⟩
      have B' := Lib.hid (B.out.trans (hb.mono B.out.size))
      have N' := Lib.hid (N.out.below hb N.out.lt)
      clear n0 n1 n2 n3 n4 n5 n6 n7 n8 hb B N
      have n0 := (N'.out.cell 0).trans rfl
      have n1 := (N'.out.cell 1).trans rfl
      have n2 := (N'.out.cell 2).trans rfl
      have n3 := (N'.out.cell 3).trans rfl
      have n4 := (N'.out.cell 4).trans rfl
      have n5 := (N'.out.cell 5).trans rfl
      have n6 := (N'.out.cell 6).trans rfl
      have n7 := (N'.out.cell 7).trans rfl
      have n8 := (N'.out.cell 8).trans rfl
      have B := Lib.hid B'.out
      have N := Lib.hid N'.out
      clear B' N'
      go_wp2_with fail
      refine (HW1.out _).mono ?_
      rintro e w' ⟨rfl, hb⟩
      have B' := Lib.hid (B.out.trans (hb.mono B.out.size))
      have N' := Lib.hid (N.out.below hb N.out.lt)
      clear n0 n1 n2 n3 n4 n5 n6 n7 n8 hb B N
      have n0 := (N'.out.cell 0).trans rfl
      have n1 := (N'.out.cell 1).trans rfl
      have n2 := (N'.out.cell 2).trans rfl
      have n3 := (N'.out.cell 3).trans rfl
      have n4 := (N'.out.cell 4).trans rfl
      have n5 := (N'.out.cell 5).trans rfl
      have n6 := (N'.out.cell 6).trans rfl
      have n7 := (N'.out.cell 7).trans rfl
      have n8 := (N'.out.cell 8).trans rfl
      have B := Lib.hid B'.out
      have N := Lib.hid N'.out
      clear B' N'
      go_wp2_with fail
      go_ret
      exact ⟨HR.out, B.out⟩
    · rw [h1] at HR HW1
      cases h2 : inR f 0 3
      · rw [h2] at HR HW2
        go_enter Tryz.func9, Tryz.ntmps9
        go_wp2_with fail
        refine (HCO.out _).mono ?_
        rintro e w' ⟨rfl, hb⟩
        have B' := Lib.hid (B.out.trans (hb.mono B.out.size))
        have N' := Lib.hid (N.out.below hb N.out.lt)
        clear n0 n1 n2 n3 n4 n5 n6 n7 n8 hb B N
        have n0 := (N'.out.cell 0).trans rfl
        have n1 := (N'.out.cell 1).trans rfl
        have n2 := (N'.out.cell 2).trans rfl
        have n3 := (N'.out.cell 3).trans rfl
        have n4 := (N'.out.cell 4).trans rfl
        have n5 := (N'.out.cell 5).trans rfl
        have n6 := (N'.out.cell 6).trans rfl
        have n7 := (N'.out.cell 7).trans rfl
        have n8 := (N'.out.cell 8).trans rfl
        have B := Lib.hid B'.out
        have N := Lib.hid N'.out
        clear B' N'
        go_wp2_with fail
        refine (HPR.out _).mono ?_
        rintro e w' ⟨rfl, hb⟩
        have B' := Lib.hid (B.out.trans (hb.mono B.out.size))
        have N' := Lib.hid (N.out.below hb N.out.lt)
        clear n0 n1 n2 n3 n4 n5 n6 n7 n8 hb B N
        have n0 := (N'.out.cell 0).trans rfl
        have n1 := (N'.out.cell 1).trans rfl
        have n2 := (N'.out.cell 2).trans rfl
        have n3 := (N'.out.cell 3).trans rfl
        have n4 := (N'.out.cell 4).trans rfl
        have n5 := (N'.out.cell 5).trans rfl
        have n6 := (N'.out.cell 6).trans rfl
        have n7 := (N'.out.cell 7).trans rfl
        have n8 := (N'.out.cell 8).trans rfl
        have B := Lib.hid B'.out
        have N := Lib.hid N'.out
        clear B' N'
        go_wp2_with fail
        refine (HW1.out _).mono ?_
        rintro e w' ⟨rfl, hb⟩
        have B' := Lib.hid (B.out.trans (hb.mono B.out.size))
        have N' := Lib.hid (N.out.below hb N.out.lt)
        clear n0 n1 n2 n3 n4 n5 n6 n7 n8 hb B N
        have n0 := (N'.out.cell 0).trans rfl
        have n1 := (N'.out.cell 1).trans rfl
        have n2 := (N'.out.cell 2).trans rfl
        have n3 := (N'.out.cell 3).trans rfl
        have n4 := (N'.out.cell 4).trans rfl
        have n5 := (N'.out.cell 5).trans rfl
        have n6 := (N'.out.cell 6).trans rfl
        have n7 := (N'.out.cell 7).trans rfl
        have n8 := (N'.out.cell 8).trans rfl
        have B := Lib.hid B'.out
        have N := Lib.hid N'.out
        clear B' N'
        go_wp2_with fail
        refine (HW2.out _).mono ?_
        rintro e w' ⟨rfl, hb⟩
        have B' := Lib.hid (B.out.trans (hb.mono B.out.size))
        have N' := Lib.hid (N.out.below hb N.out.lt)
        clear n0 n1 n2 n3 n4 n5 n6 n7 n8 hb B N
        have n0 := (N'.out.cell 0).trans rfl
        have n1 := (N'.out.cell 1).trans rfl
        have n2 := (N'.out.cell 2).trans rfl
        have n3 := (N'.out.cell 3).trans rfl
        have n4 := (N'.out.cell 4).trans rfl
        have n5 := (N'.out.cell 5).trans rfl
        have n6 := (N'.out.cell 6).trans rfl
        have n7 := (N'.out.cell 7).trans rfl
        have n8 := (N'.out.cell 8).trans rfl
        have B := Lib.hid B'.out
        have N := Lib.hid N'.out
        clear B' N'
        go_wp2_with fail
        go_ret
        exact ⟨HR.out, B.out⟩
      · rw [h2] at HR HW2
        cases h3 : inR t 0 3
        · rw [h3] at HR HW3
          go_enter Tryz.func9, Tryz.ntmps9
          go_wp2_with fail
          refine (HCO.out _).mono ?_
          rintro e w' ⟨rfl, hb⟩
          have B' := Lib.hid (B.out.trans (hb.mono B.out.size))
          have N' := Lib.hid (N.out.below hb N.out.lt)
          clear n0 n1 n2 n3 n4 n5 n6 n7 n8 hb B N
          have n0 := (N'.out.cell 0).trans rfl
          have n1 := (N'.out.cell 1).trans rfl
          have n2 := (N'.out.cell 2).trans rfl
          have n3 := (N'.out.cell 3).trans rfl
          have n4 := (N'.out.cell 4).trans rfl
          have n5 := (N'.out.cell 5).trans rfl
          have n6 := (N'.out.cell 6).trans rfl
          have n7 := (N'.out.cell 7).trans rfl
          have n8 := (N'.out.cell 8).trans rfl
          have B := Lib.hid B'.out
          have N := Lib.hid N'.out
          clear B' N'
          go_wp2_with fail
          refine (HPR.out _).mono ?_
          rintro e w' ⟨rfl, hb⟩
          have B' := Lib.hid (B.out.trans (hb.mono B.out.size))
          have N' := Lib.hid (N.out.below hb N.out.lt)
          clear n0 n1 n2 n3 n4 n5 n6 n7 n8 hb B N
          have n0 := (N'.out.cell 0).trans rfl
          have n1 := (N'.out.cell 1).trans rfl
          have n2 := (N'.out.cell 2).trans rfl
          have n3 := (N'.out.cell 3).trans rfl
          have n4 := (N'.out.cell 4).trans rfl
          have n5 := (N'.out.cell 5).trans rfl
          have n6 := (N'.out.cell 6).trans rfl
          have n7 := (N'.out.cell 7).trans rfl
          have n8 := (N'.out.cell 8).trans rfl
          have B := Lib.hid B'.out
          have N := Lib.hid N'.out
          clear B' N'
          go_wp2_with fail
          refine (HW1.out _).mono ?_
          rintro e w' ⟨rfl, hb⟩
          have B' := Lib.hid (B.out.trans (hb.mono B.out.size))
          have N' := Lib.hid (N.out.below hb N.out.lt)
          clear n0 n1 n2 n3 n4 n5 n6 n7 n8 hb B N
          have n0 := (N'.out.cell 0).trans rfl
          have n1 := (N'.out.cell 1).trans rfl
          have n2 := (N'.out.cell 2).trans rfl
          have n3 := (N'.out.cell 3).trans rfl
          have n4 := (N'.out.cell 4).trans rfl
          have n5 := (N'.out.cell 5).trans rfl
          have n6 := (N'.out.cell 6).trans rfl
          have n7 := (N'.out.cell 7).trans rfl
          have n8 := (N'.out.cell 8).trans rfl
          have B := Lib.hid B'.out
          have N := Lib.hid N'.out
          clear B' N'
          go_wp2_with fail
          refine (HW2.out _).mono ?_
          rintro e w' ⟨rfl, hb⟩
          have B' := Lib.hid (B.out.trans (hb.mono B.out.size))
          have N' := Lib.hid (N.out.below hb N.out.lt)
          clear n0 n1 n2 n3 n4 n5 n6 n7 n8 hb B N
          have n0 := (N'.out.cell 0).trans rfl
          have n1 := (N'.out.cell 1).trans rfl
          have n2 := (N'.out.cell 2).trans rfl
          have n3 := (N'.out.cell 3).trans rfl
          have n4 := (N'.out.cell 4).trans rfl
          have n5 := (N'.out.cell 5).trans rfl
          have n6 := (N'.out.cell 6).trans rfl
          have n7 := (N'.out.cell 7).trans rfl
          have n8 := (N'.out.cell 8).trans rfl
          have B := Lib.hid B'.out
          have N := Lib.hid N'.out
          clear B' N'
          go_wp2_with fail
          refine (HW3.out _).mono ?_
          rintro e w' ⟨rfl, hb⟩
          have B' := Lib.hid (B.out.trans (hb.mono B.out.size))
          have N' := Lib.hid (N.out.below hb N.out.lt)
          clear n0 n1 n2 n3 n4 n5 n6 n7 n8 hb B N
          have n0 := (N'.out.cell 0).trans rfl
          have n1 := (N'.out.cell 1).trans rfl
          have n2 := (N'.out.cell 2).trans rfl
          have n3 := (N'.out.cell 3).trans rfl
          have n4 := (N'.out.cell 4).trans rfl
          have n5 := (N'.out.cell 5).trans rfl
          have n6 := (N'.out.cell 6).trans rfl
          have n7 := (N'.out.cell 7).trans rfl
          have n8 := (N'.out.cell 8).trans rfl
          have B := Lib.hid B'.out
          have N := Lib.hid N'.out
          clear B' N'
          go_wp2_with fail
          go_ret
          exact ⟨HR.out, B.out⟩
        · rw [h3] at HR HW3
          cases h4 : actOk n s
          · rw [h4] at HR HW4
            go_enter Tryz.func9, Tryz.ntmps9
            go_wp2_with fail
            refine (HCO.out _).mono ?_
            rintro e w' ⟨rfl, hb⟩
            have B' := Lib.hid (B.out.trans (hb.mono B.out.size))
            have N' := Lib.hid (N.out.below hb N.out.lt)
            clear n0 n1 n2 n3 n4 n5 n6 n7 n8 hb B N
            have n0 := (N'.out.cell 0).trans rfl
            have n1 := (N'.out.cell 1).trans rfl
            have n2 := (N'.out.cell 2).trans rfl
            have n3 := (N'.out.cell 3).trans rfl
            have n4 := (N'.out.cell 4).trans rfl
            have n5 := (N'.out.cell 5).trans rfl
            have n6 := (N'.out.cell 6).trans rfl
            have n7 := (N'.out.cell 7).trans rfl
            have n8 := (N'.out.cell 8).trans rfl
            have B := Lib.hid B'.out
            have N := Lib.hid N'.out
            clear B' N'
            go_wp2_with fail
            refine (HPR.out _).mono ?_
            rintro e w' ⟨rfl, hb⟩
            have B' := Lib.hid (B.out.trans (hb.mono B.out.size))
            have N' := Lib.hid (N.out.below hb N.out.lt)
            clear n0 n1 n2 n3 n4 n5 n6 n7 n8 hb B N
            have n0 := (N'.out.cell 0).trans rfl
            have n1 := (N'.out.cell 1).trans rfl
            have n2 := (N'.out.cell 2).trans rfl
            have n3 := (N'.out.cell 3).trans rfl
            have n4 := (N'.out.cell 4).trans rfl
            have n5 := (N'.out.cell 5).trans rfl
            have n6 := (N'.out.cell 6).trans rfl
            have n7 := (N'.out.cell 7).trans rfl
            have n8 := (N'.out.cell 8).trans rfl
            have B := Lib.hid B'.out
            have N := Lib.hid N'.out
            clear B' N'
            go_wp2_with fail
            refine (HW1.out _).mono ?_
            rintro e w' ⟨rfl, hb⟩
            have B' := Lib.hid (B.out.trans (hb.mono B.out.size))
            have N' := Lib.hid (N.out.below hb N.out.lt)
            clear n0 n1 n2 n3 n4 n5 n6 n7 n8 hb B N
            have n0 := (N'.out.cell 0).trans rfl
            have n1 := (N'.out.cell 1).trans rfl
            have n2 := (N'.out.cell 2).trans rfl
            have n3 := (N'.out.cell 3).trans rfl
            have n4 := (N'.out.cell 4).trans rfl
            have n5 := (N'.out.cell 5).trans rfl
            have n6 := (N'.out.cell 6).trans rfl
            have n7 := (N'.out.cell 7).trans rfl
            have n8 := (N'.out.cell 8).trans rfl
            have B := Lib.hid B'.out
            have N := Lib.hid N'.out
            clear B' N'
            go_wp2_with fail
            refine (HW2.out _).mono ?_
            rintro e w' ⟨rfl, hb⟩
            have B' := Lib.hid (B.out.trans (hb.mono B.out.size))
            have N' := Lib.hid (N.out.below hb N.out.lt)
            clear n0 n1 n2 n3 n4 n5 n6 n7 n8 hb B N
            have n0 := (N'.out.cell 0).trans rfl
            have n1 := (N'.out.cell 1).trans rfl
            have n2 := (N'.out.cell 2).trans rfl
            have n3 := (N'.out.cell 3).trans rfl
            have n4 := (N'.out.cell 4).trans rfl
            have n5 := (N'.out.cell 5).trans rfl
            have n6 := (N'.out.cell 6).trans rfl
            have n7 := (N'.out.cell 7).trans rfl
            have n8 := (N'.out.cell 8).trans rfl
            have B := Lib.hid B'.out
            have N := Lib.hid N'.out
            clear B' N'
            go_wp2_with fail
            refine (HW3.out _).mono ?_
            rintro e w' ⟨rfl, hb⟩
            have B' := Lib.hid (B.out.trans (hb.mono B.out.size))
            have N' := Lib.hid (N.out.below hb N.out.lt)
            clear n0 n1 n2 n3 n4 n5 n6 n7 n8 hb B N
            have n0 := (N'.out.cell 0).trans rfl
            have n1 := (N'.out.cell 1).trans rfl
            have n2 := (N'.out.cell 2).trans rfl
            have n3 := (N'.out.cell 3).trans rfl
            have n4 := (N'.out.cell 4).trans rfl
            have n5 := (N'.out.cell 5).trans rfl
            have n6 := (N'.out.cell 6).trans rfl
            have n7 := (N'.out.cell 7).trans rfl
            have n8 := (N'.out.cell 8).trans rfl
            have B := Lib.hid B'.out
            have N := Lib.hid N'.out
            clear B' N'
            go_wp2_with fail
            refine (HW4.out _ (HG.out _ B.out)).mono ?_
            rintro e w' ⟨rfl, hb⟩
            have B' := Lib.hid (B.out.trans (hb.mono B.out.size))
            have N' := Lib.hid (N.out.below hb N.out.lt)
            clear n0 n1 n2 n3 n4 n5 n6 n7 n8 hb B N
            have n0 := (N'.out.cell 0).trans rfl
            have n1 := (N'.out.cell 1).trans rfl
            have n2 := (N'.out.cell 2).trans rfl
            have n3 := (N'.out.cell 3).trans rfl
            have n4 := (N'.out.cell 4).trans rfl
            have n5 := (N'.out.cell 5).trans rfl
            have n6 := (N'.out.cell 6).trans rfl
            have n7 := (N'.out.cell 7).trans rfl
            have n8 := (N'.out.cell 8).trans rfl
            have B := Lib.hid B'.out
            have N := Lib.hid N'.out
            clear B' N'
            go_wp2_with fail
            go_ret
            exact ⟨HR.out, B.out⟩
          · rw [h4] at HR HW4
            cases h5 : inR r 0 5
            · rw [h5] at HR HW5
              go_enter Tryz.func9, Tryz.ntmps9
              go_wp2_with fail
              refine (HCO.out _).mono ?_
              rintro e w' ⟨rfl, hb⟩
              have B' := Lib.hid (B.out.trans (hb.mono B.out.size))
              have N' := Lib.hid (N.out.below hb N.out.lt)
              clear n0 n1 n2 n3 n4 n5 n6 n7 n8 hb B N
              have n0 := (N'.out.cell 0).trans rfl
              have n1 := (N'.out.cell 1).trans rfl
              have n2 := (N'.out.cell 2).trans rfl
              have n3 := (N'.out.cell 3).trans rfl
              have n4 := (N'.out.cell 4).trans rfl
              have n5 := (N'.out.cell 5).trans rfl
              have n6 := (N'.out.cell 6).trans rfl
              have n7 := (N'.out.cell 7).trans rfl
              have n8 := (N'.out.cell 8).trans rfl
              have B := Lib.hid B'.out
              have N := Lib.hid N'.out
              clear B' N'
              go_wp2_with fail
              refine (HPR.out _).mono ?_
              rintro e w' ⟨rfl, hb⟩
              have B' := Lib.hid (B.out.trans (hb.mono B.out.size))
              have N' := Lib.hid (N.out.below hb N.out.lt)
              clear n0 n1 n2 n3 n4 n5 n6 n7 n8 hb B N
              have n0 := (N'.out.cell 0).trans rfl
              have n1 := (N'.out.cell 1).trans rfl
              have n2 := (N'.out.cell 2).trans rfl
              have n3 := (N'.out.cell 3).trans rfl
              have n4 := (N'.out.cell 4).trans rfl
              have n5 := (N'.out.cell 5).trans rfl
              have n6 := (N'.out.cell 6).trans rfl
              have n7 := (N'.out.cell 7).trans rfl
              have n8 := (N'.out.cell 8).trans rfl
              have B := Lib.hid B'.out
              have N := Lib.hid N'.out
              clear B' N'
              go_wp2_with fail
              refine (HW1.out _).mono ?_
              rintro e w' ⟨rfl, hb⟩
              have B' := Lib.hid (B.out.trans (hb.mono B.out.size))
              have N' := Lib.hid (N.out.below hb N.out.lt)
              clear n0 n1 n2 n3 n4 n5 n6 n7 n8 hb B N
              have n0 := (N'.out.cell 0).trans rfl
              have n1 := (N'.out.cell 1).trans rfl
              have n2 := (N'.out.cell 2).trans rfl
              have n3 := (N'.out.cell 3).trans rfl
              have n4 := (N'.out.cell 4).trans rfl
              have n5 := (N'.out.cell 5).trans rfl
              have n6 := (N'.out.cell 6).trans rfl
              have n7 := (N'.out.cell 7).trans rfl
              have n8 := (N'.out.cell 8).trans rfl
              have B := Lib.hid B'.out
              have N := Lib.hid N'.out
              clear B' N'
              go_wp2_with fail
              refine (HW2.out _).mono ?_
              rintro e w' ⟨rfl, hb⟩
              have B' := Lib.hid (B.out.trans (hb.mono B.out.size))
              have N' := Lib.hid (N.out.below hb N.out.lt)
              clear n0 n1 n2 n3 n4 n5 n6 n7 n8 hb B N
              have n0 := (N'.out.cell 0).trans rfl
              have n1 := (N'.out.cell 1).trans rfl
              have n2 := (N'.out.cell 2).trans rfl
              have n3 := (N'.out.cell 3).trans rfl
              have n4 := (N'.out.cell 4).trans rfl
              have n5 := (N'.out.cell 5).trans rfl
              have n6 := (N'.out.cell 6).trans rfl
              have n7 := (N'.out.cell 7).trans rfl
              have n8 := (N'.out.cell 8).trans rfl
              have B := Lib.hid B'.out
              have N := Lib.hid N'.out
              clear B' N'
              go_wp2_with fail
              refine (HW3.out _).mono ?_
              rintro e w' ⟨rfl, hb⟩
              have B' := Lib.hid (B.out.trans (hb.mono B.out.size))
              have N' := Lib.hid (N.out.below hb N.out.lt)
              clear n0 n1 n2 n3 n4 n5 n6 n7 n8 hb B N
              have n0 := (N'.out.cell 0).trans rfl
              have n1 := (N'.out.cell 1).trans rfl
              have n2 := (N'.out.cell 2).trans rfl
              have n3 := (N'.out.cell 3).trans rfl
              have n4 := (N'.out.cell 4).trans rfl
              have n5 := (N'.out.cell 5).trans rfl
              have n6 := (N'.out.cell 6).trans rfl
              have n7 := (N'.out.cell 7).trans rfl
              have n8 := (N'.out.cell 8).trans rfl
              have B := Lib.hid B'.out
              have N := Lib.hid N'.out
              clear B' N'
              go_wp2_with fail
              refine (HW4.out _ (HG.out _ B.out)).mono ?_
              rintro e w' ⟨rfl, hb⟩
              have B' := Lib.hid (B.out.trans (hb.mono B.out.size))
              have N' := Lib.hid (N.out.below hb N.out.lt)
              clear n0 n1 n2 n3 n4 n5 n6 n7 n8 hb B N
              have n0 := (N'.out.cell 0).trans rfl
              have n1 := (N'.out.cell 1).trans rfl
              have n2 := (N'.out.cell 2).trans rfl
              have n3 := (N'.out.cell 3).trans rfl
              have n4 := (N'.out.cell 4).trans rfl
              have n5 := (N'.out.cell 5).trans rfl
              have n6 := (N'.out.cell 6).trans rfl
              have n7 := (N'.out.cell 7).trans rfl
              have n8 := (N'.out.cell 8).trans rfl
              have B := Lib.hid B'.out
              have N := Lib.hid N'.out
              clear B' N'
              go_wp2_with fail
              refine (HW5.out _).mono ?_
              rintro e w' ⟨rfl, hb⟩
              have B' := Lib.hid (B.out.trans (hb.mono B.out.size))
              have N' := Lib.hid (N.out.below hb N.out.lt)
              clear n0 n1 n2 n3 n4 n5 n6 n7 n8 hb B N
              have n0 := (N'.out.cell 0).trans rfl
              have n1 := (N'.out.cell 1).trans rfl
              have n2 := (N'.out.cell 2).trans rfl
              have n3 := (N'.out.cell 3).trans rfl
              have n4 := (N'.out.cell 4).trans rfl
              have n5 := (N'.out.cell 5).trans rfl
              have n6 := (N'.out.cell 6).trans rfl
              have n7 := (N'.out.cell 7).trans rfl
              have n8 := (N'.out.cell 8).trans rfl
              have B := Lib.hid B'.out
              have N := Lib.hid N'.out
              clear B' N'
              go_wp2_with fail
              go_ret
              exact ⟨HR.out, B.out⟩
            · rw [h5] at HR HW5
              cases h6 : inR p 0 7
              · rw [h6] at HR HW6
                go_enter Tryz.func9, Tryz.ntmps9
                go_wp2_with fail
                refine (HCO.out _).mono ?_
                rintro e w' ⟨rfl, hb⟩
                have B' := Lib.hid (B.out.trans (hb.mono B.out.size))
                have N' := Lib.hid (N.out.below hb N.out.lt)
                clear n0 n1 n2 n3 n4 n5 n6 n7 n8 hb B N
                have n0 := (N'.out.cell 0).trans rfl
                have n1 := (N'.out.cell 1).trans rfl
                have n2 := (N'.out.cell 2).trans rfl
                have n3 := (N'.out.cell 3).trans rfl
                have n4 := (N'.out.cell 4).trans rfl
                have n5 := (N'.out.cell 5).trans rfl
                have n6 := (N'.out.cell 6).trans rfl
                have n7 := (N'.out.cell 7).trans rfl
                have n8 := (N'.out.cell 8).trans rfl
                have B := Lib.hid B'.out
                have N := Lib.hid N'.out
                clear B' N'
                go_wp2_with fail
                refine (HPR.out _).mono ?_
                rintro e w' ⟨rfl, hb⟩
                have B' := Lib.hid (B.out.trans (hb.mono B.out.size))
                have N' := Lib.hid (N.out.below hb N.out.lt)
                clear n0 n1 n2 n3 n4 n5 n6 n7 n8 hb B N
                have n0 := (N'.out.cell 0).trans rfl
                have n1 := (N'.out.cell 1).trans rfl
                have n2 := (N'.out.cell 2).trans rfl
                have n3 := (N'.out.cell 3).trans rfl
                have n4 := (N'.out.cell 4).trans rfl
                have n5 := (N'.out.cell 5).trans rfl
                have n6 := (N'.out.cell 6).trans rfl
                have n7 := (N'.out.cell 7).trans rfl
                have n8 := (N'.out.cell 8).trans rfl
                have B := Lib.hid B'.out
                have N := Lib.hid N'.out
                clear B' N'
                go_wp2_with fail
                refine (HW1.out _).mono ?_
                rintro e w' ⟨rfl, hb⟩
                have B' := Lib.hid (B.out.trans (hb.mono B.out.size))
                have N' := Lib.hid (N.out.below hb N.out.lt)
                clear n0 n1 n2 n3 n4 n5 n6 n7 n8 hb B N
                have n0 := (N'.out.cell 0).trans rfl
                have n1 := (N'.out.cell 1).trans rfl
                have n2 := (N'.out.cell 2).trans rfl
                have n3 := (N'.out.cell 3).trans rfl
                have n4 := (N'.out.cell 4).trans rfl
                have n5 := (N'.out.cell 5).trans rfl
                have n6 := (N'.out.cell 6).trans rfl
                have n7 := (N'.out.cell 7).trans rfl
                have n8 := (N'.out.cell 8).trans rfl
                have B := Lib.hid B'.out
                have N := Lib.hid N'.out
                clear B' N'
                go_wp2_with fail
                refine (HW2.out _).mono ?_
                rintro e w' ⟨rfl, hb⟩
                have B' := Lib.hid (B.out.trans (hb.mono B.out.size))
                have N' := Lib.hid (N.out.below hb N.out.lt)
                clear n0 n1 n2 n3 n4 n5 n6 n7 n8 hb B N
                have n0 := (N'.out.cell 0).trans rfl
                have n1 := (N'.out.cell 1).trans rfl
                have n2 := (N'.out.cell 2).trans rfl
                have n3 := (N'.out.cell 3).trans rfl
                have n4 := (N'.out.cell 4).trans rfl
                have n5 := (N'.out.cell 5).trans rfl
                have n6 := (N'.out.cell 6).trans rfl
                have n7 := (N'.out.cell 7).trans rfl
                have n8 := (N'.out.cell 8).trans rfl
                have B := Lib.hid B'.out
                have N := Lib.hid N'.out
                clear B' N'
                go_wp2_with fail
                refine (HW3.out _).mono ?_
                rintro e w' ⟨rfl, hb⟩
                have B' := Lib.hid (B.out.trans (hb.mono B.out.size))
                have N' := Lib.hid (N.out.below hb N.out.lt)
                clear n0 n1 n2 n3 n4 n5 n6 n7 n8 hb B N
                have n0 := (N'.out.cell 0).trans rfl
                have n1 := (N'.out.cell 1).trans rfl
                have n2 := (N'.out.cell 2).trans rfl
                have n3 := (N'.out.cell 3).trans rfl
                have n4 := (N'.out.cell 4).trans rfl
                have n5 := (N'.out.cell 5).trans rfl
                have n6 := (N'.out.cell 6).trans rfl
                have n7 := (N'.out.cell 7).trans rfl
                have n8 := (N'.out.cell 8).trans rfl
                have B := Lib.hid B'.out
                have N := Lib.hid N'.out
                clear B' N'
                go_wp2_with fail
                refine (HW4.out _ (HG.out _ B.out)).mono ?_
                rintro e w' ⟨rfl, hb⟩
                have B' := Lib.hid (B.out.trans (hb.mono B.out.size))
                have N' := Lib.hid (N.out.below hb N.out.lt)
                clear n0 n1 n2 n3 n4 n5 n6 n7 n8 hb B N
                have n0 := (N'.out.cell 0).trans rfl
                have n1 := (N'.out.cell 1).trans rfl
                have n2 := (N'.out.cell 2).trans rfl
                have n3 := (N'.out.cell 3).trans rfl
                have n4 := (N'.out.cell 4).trans rfl
                have n5 := (N'.out.cell 5).trans rfl
                have n6 := (N'.out.cell 6).trans rfl
                have n7 := (N'.out.cell 7).trans rfl
                have n8 := (N'.out.cell 8).trans rfl
                have B := Lib.hid B'.out
                have N := Lib.hid N'.out
                clear B' N'
                go_wp2_with fail
                refine (HW5.out _).mono ?_
                rintro e w' ⟨rfl, hb⟩
                have B' := Lib.hid (B.out.trans (hb.mono B.out.size))
                have N' := Lib.hid (N.out.below hb N.out.lt)
                clear n0 n1 n2 n3 n4 n5 n6 n7 n8 hb B N
                have n0 := (N'.out.cell 0).trans rfl
                have n1 := (N'.out.cell 1).trans rfl
                have n2 := (N'.out.cell 2).trans rfl
                have n3 := (N'.out.cell 3).trans rfl
                have n4 := (N'.out.cell 4).trans rfl
                have n5 := (N'.out.cell 5).trans rfl
                have n6 := (N'.out.cell 6).trans rfl
                have n7 := (N'.out.cell 7).trans rfl
                have n8 := (N'.out.cell 8).trans rfl
                have B := Lib.hid B'.out
                have N := Lib.hid N'.out
                clear B' N'
                go_wp2_with fail
                refine (HW6.out _).mono ?_
                rintro e w' ⟨rfl, hb⟩
                have B' := Lib.hid (B.out.trans (hb.mono B.out.size))
                have N' := Lib.hid (N.out.below hb N.out.lt)
                clear n0 n1 n2 n3 n4 n5 n6 n7 n8 hb B N
                have n0 := (N'.out.cell 0).trans rfl
                have n1 := (N'.out.cell 1).trans rfl
                have n2 := (N'.out.cell 2).trans rfl
                have n3 := (N'.out.cell 3).trans rfl
                have n4 := (N'.out.cell 4).trans rfl
                have n5 := (N'.out.cell 5).trans rfl
                have n6 := (N'.out.cell 6).trans rfl
                have n7 := (N'.out.cell 7).trans rfl
                have n8 := (N'.out.cell 8).trans rfl
                have B := Lib.hid B'.out
                have N := Lib.hid N'.out
                clear B' N'
                go_wp2_with fail
                go_ret
                exact ⟨HR.out, B.out⟩
              · rw [h6] at HR HW6
                cases h7 : inR q ql qh
                · rw [h7] at HR HW7
                  go_enter Tryz.func9, Tryz.ntmps9
                  go_wp2_with fail
                  refine (HCO.out _).mono ?_
                  rintro e w' ⟨rfl, hb⟩
                  have B' := Lib.hid (B.out.trans (hb.mono B.out.size))
                  have N' := Lib.hid (N.out.below hb N.out.lt)
                  clear n0 n1 n2 n3 n4 n5 n6 n7 n8 hb B N
                  have n0 := (N'.out.cell 0).trans rfl
                  have n1 := (N'.out.cell 1).trans rfl
                  have n2 := (N'.out.cell 2).trans rfl
                  have n3 := (N'.out.cell 3).trans rfl
                  have n4 := (N'.out.cell 4).trans rfl
                  have n5 := (N'.out.cell 5).trans rfl
                  have n6 := (N'.out.cell 6).trans rfl
                  have n7 := (N'.out.cell 7).trans rfl
                  have n8 := (N'.out.cell 8).trans rfl
                  have B := Lib.hid B'.out
                  have N := Lib.hid N'.out
                  clear B' N'
                  go_wp2_with fail
                  refine (HPR.out _).mono ?_
                  rintro e w' ⟨rfl, hb⟩
                  have B' := Lib.hid (B.out.trans (hb.mono B.out.size))
                  have N' := Lib.hid (N.out.below hb N.out.lt)
                  clear n0 n1 n2 n3 n4 n5 n6 n7 n8 hb B N
                  have n0 := (N'.out.cell 0).trans rfl
                  have n1 := (N'.out.cell 1).trans rfl
                  have n2 := (N'.out.cell 2).trans rfl
                  have n3 := (N'.out.cell 3).trans rfl
                  have n4 := (N'.out.cell 4).trans rfl
                  have n5 := (N'.out.cell 5).trans rfl
                  have n6 := (N'.out.cell 6).trans rfl
                  have n7 := (N'.out.cell 7).trans rfl
                  have n8 := (N'.out.cell 8).trans rfl
                  have B := Lib.hid B'.out
                  have N := Lib.hid N'.out
                  clear B' N'
                  go_wp2_with fail
                  refine (HW1.out _).mono ?_
                  rintro e w' ⟨rfl, hb⟩
                  have B' := Lib.hid (B.out.trans (hb.mono B.out.size))
                  have N' := Lib.hid (N.out.below hb N.out.lt)
                  clear n0 n1 n2 n3 n4 n5 n6 n7 n8 hb B N
                  have n0 := (N'.out.cell 0).trans rfl
                  have n1 := (N'.out.cell 1).trans rfl
                  have n2 := (N'.out.cell 2).trans rfl
                  have n3 := (N'.out.cell 3).trans rfl
                  have n4 := (N'.out.cell 4).trans rfl
                  have n5 := (N'.out.cell 5).trans rfl
                  have n6 := (N'.out.cell 6).trans rfl
                  have n7 := (N'.out.cell 7).trans rfl
                  have n8 := (N'.out.cell 8).trans rfl
                  have B := Lib.hid B'.out
                  have N := Lib.hid N'.out
                  clear B' N'
                  go_wp2_with fail
                  refine (HW2.out _).mono ?_
                  rintro e w' ⟨rfl, hb⟩
                  have B' := Lib.hid (B.out.trans (hb.mono B.out.size))
                  have N' := Lib.hid (N.out.below hb N.out.lt)
                  clear n0 n1 n2 n3 n4 n5 n6 n7 n8 hb B N
                  have n0 := (N'.out.cell 0).trans rfl
                  have n1 := (N'.out.cell 1).trans rfl
                  have n2 := (N'.out.cell 2).trans rfl
                  have n3 := (N'.out.cell 3).trans rfl
                  have n4 := (N'.out.cell 4).trans rfl
                  have n5 := (N'.out.cell 5).trans rfl
                  have n6 := (N'.out.cell 6).trans rfl
                  have n7 := (N'.out.cell 7).trans rfl
                  have n8 := (N'.out.cell 8).trans rfl
                  have B := Lib.hid B'.out
                  have N := Lib.hid N'.out
                  clear B' N'
                  go_wp2_with fail
                  refine (HW3.out _).mono ?_
                  rintro e w' ⟨rfl, hb⟩
                  have B' := Lib.hid (B.out.trans (hb.mono B.out.size))
                  have N' := Lib.hid (N.out.below hb N.out.lt)
                  clear n0 n1 n2 n3 n4 n5 n6 n7 n8 hb B N
                  have n0 := (N'.out.cell 0).trans rfl
                  have n1 := (N'.out.cell 1).trans rfl
                  have n2 := (N'.out.cell 2).trans rfl
                  have n3 := (N'.out.cell 3).trans rfl
                  have n4 := (N'.out.cell 4).trans rfl
                  have n5 := (N'.out.cell 5).trans rfl
                  have n6 := (N'.out.cell 6).trans rfl
                  have n7 := (N'.out.cell 7).trans rfl
                  have n8 := (N'.out.cell 8).trans rfl
                  have B := Lib.hid B'.out
                  have N := Lib.hid N'.out
                  clear B' N'
                  go_wp2_with fail
                  refine (HW4.out _ (HG.out _ B.out)).mono ?_
                  rintro e w' ⟨rfl, hb⟩
                  have B' := Lib.hid (B.out.trans (hb.mono B.out.size))
                  have N' := Lib.hid (N.out.below hb N.out.lt)
                  clear n0 n1 n2 n3 n4 n5 n6 n7 n8 hb B N
                  have n0 := (N'.out.cell 0).trans rfl
                  have n1 := (N'.out.cell 1).trans rfl
                  have n2 := (N'.out.cell 2).trans rfl
                  have n3 := (N'.out.cell 3).trans rfl
                  have n4 := (N'.out.cell 4).trans rfl
                  have n5 := (N'.out.cell 5).trans rfl
                  have n6 := (N'.out.cell 6).trans rfl
                  have n7 := (N'.out.cell 7).trans rfl
                  have n8 := (N'.out.cell 8).trans rfl
                  have B := Lib.hid B'.out
                  have N := Lib.hid N'.out
                  clear B' N'
                  go_wp2_with fail
                  refine (HW5.out _).mono ?_
                  rintro e w' ⟨rfl, hb⟩
                  have B' := Lib.hid (B.out.trans (hb.mono B.out.size))
                  have N' := Lib.hid (N.out.below hb N.out.lt)
                  clear n0 n1 n2 n3 n4 n5 n6 n7 n8 hb B N
                  have n0 := (N'.out.cell 0).trans rfl
                  have n1 := (N'.out.cell 1).trans rfl
                  have n2 := (N'.out.cell 2).trans rfl
                  have n3 := (N'.out.cell 3).trans rfl
                  have n4 := (N'.out.cell 4).trans rfl
                  have n5 := (N'.out.cell 5).trans rfl
                  have n6 := (N'.out.cell 6).trans rfl
                  have n7 := (N'.out.cell 7).trans rfl
                  have n8 := (N'.out.cell 8).trans rfl
                  have B := Lib.hid B'.out
                  have N := Lib.hid N'.out
                  clear B' N'
                  go_wp2_with fail
                  refine (HW6.out _).mono ?_
                  rintro e w' ⟨rfl, hb⟩
                  have B' := Lib.hid (B.out.trans (hb.mono B.out.size))
                  have N' := Lib.hid (N.out.below hb N.out.lt)
                  clear n0 n1 n2 n3 n4 n5 n6 n7 n8 hb B N
                  have n0 := (N'.out.cell 0).trans rfl
                  have n1 := (N'.out.cell 1).trans rfl
                  have n2 := (N'.out.cell 2).trans rfl
                  have n3 := (N'.out.cell 3).trans rfl
                  have n4 := (N'.out.cell 4).trans rfl
                  have n5 := (N'.out.cell 5).trans rfl
                  have n6 := (N'.out.cell 6).trans rfl
                  have n7 := (N'.out.cell 7).trans rfl
                  have n8 := (N'.out.cell 8).trans rfl
                  have B := Lib.hid B'.out
                  have N := Lib.hid N'.out
                  clear B' N'
                  go_wp2_with fail
                  refine (HW7.out _).mono ?_
                  rintro e w' ⟨rfl, hb⟩
                  have B' := Lib.hid (B.out.trans (hb.mono B.out.size))
                  have N' := Lib.hid (N.out.below hb N.out.lt)
                  clear n0 n1 n2 n3 n4 n5 n6 n7 n8 hb B N
                  have n0 := (N'.out.cell 0).trans rfl
                  have n1 := (N'.out.cell 1).trans rfl
                  have n2 := (N'.out.cell 2).trans rfl
                  have n3 := (N'.out.cell 3).trans rfl
                  have n4 := (N'.out.cell 4).trans rfl
                  have n5 := (N'.out.cell 5).trans rfl
                  have n6 := (N'.out.cell 6).trans rfl
                  have n7 := (N'.out.cell 7).trans rfl
                  have n8 := (N'.out.cell 8).trans rfl
                  have B := Lib.hid B'.out
                  have N := Lib.hid N'.out
                  clear B' N'
                  go_wp2_with fail
                  go_ret
                  exact ⟨HR.out, B.out⟩
                · rw [h7] at HR HW7
                  go_enter Tryz.func9, Tryz.ntmps9
                  go_wp2_with fail
                  refine (HCO.out _).mono ?_
                  rintro e w' ⟨rfl, hb⟩
                  have B' := Lib.hid (B.out.trans (hb.mono B.out.size))
                  have N' := Lib.hid (N.out.below hb N.out.lt)
                  clear n0 n1 n2 n3 n4 n5 n6 n7 n8 hb B N
                  have n0 := (N'.out.cell 0).trans rfl
                  have n1 := (N'.out.cell 1).trans rfl
                  have n2 := (N'.out.cell 2).trans rfl
                  have n3 := (N'.out.cell 3).trans rfl
                  have n4 := (N'.out.cell 4).trans rfl
                  have n5 := (N'.out.cell 5).trans rfl
                  have n6 := (N'.out.cell 6).trans rfl
                  have n7 := (N'.out.cell 7).trans rfl
                  have n8 := (N'.out.cell 8).trans rfl
                  have B := Lib.hid B'.out
                  have N := Lib.hid N'.out
                  clear B' N'
                  go_wp2_with fail
                  refine (HPR.out _).mono ?_
                  rintro e w' ⟨rfl, hb⟩
                  have B' := Lib.hid (B.out.trans (hb.mono B.out.size))
                  have N' := Lib.hid (N.out.below hb N.out.lt)
                  clear n0 n1 n2 n3 n4 n5 n6 n7 n8 hb B N
                  have n0 := (N'.out.cell 0).trans rfl
                  have n1 := (N'.out.cell 1).trans rfl
                  have n2 := (N'.out.cell 2).trans rfl
                  have n3 := (N'.out.cell 3).trans rfl
                  have n4 := (N'.out.cell 4).trans rfl
                  have n5 := (N'.out.cell 5).trans rfl
                  have n6 := (N'.out.cell 6).trans rfl
                  have n7 := (N'.out.cell 7).trans rfl
                  have n8 := (N'.out.cell 8).trans rfl
                  have B := Lib.hid B'.out
                  have N := Lib.hid N'.out
                  clear B' N'
                  go_wp2_with fail
                  refine (HW1.out _).mono ?_
                  rintro e w' ⟨rfl, hb⟩
                  have B' := Lib.hid (B.out.trans (hb.mono B.out.size))
                  have N' := Lib.hid (N.out.below hb N.out.lt)
                  clear n0 n1 n2 n3 n4 n5 n6 n7 n8 hb B N
                  have n0 := (N'.out.cell 0).trans rfl
                  have n1 := (N'.out.cell 1).trans rfl
                  have n2 := (N'.out.cell 2).trans rfl
                  have n3 := (N'.out.cell 3).trans rfl
                  have n4 := (N'.out.cell 4).trans rfl
                  have n5 := (N'.out.cell 5).trans rfl
                  have n6 := (N'.out.cell 6).trans rfl
                  have n7 := (N'.out.cell 7).trans rfl
                  have n8 := (N'.out.cell 8).trans rfl
                  have B := Lib.hid B'.out
                  have N := Lib.hid N'.out
                  clear B' N'
                  go_wp2_with fail
                  refine (HW2.out _).mono ?_
                  rintro e w' ⟨rfl, hb⟩
                  have B' := Lib.hid (B.out.trans (hb.mono B.out.size))
                  have N' := Lib.hid (N.out.below hb N.out.lt)
                  clear n0 n1 n2 n3 n4 n5 n6 n7 n8 hb B N
                  have n0 := (N'.out.cell 0).trans rfl
                  have n1 := (N'.out.cell 1).trans rfl
                  have n2 := (N'.out.cell 2).trans rfl
                  have n3 := (N'.out.cell 3).trans rfl
                  have n4 := (N'.out.cell 4).trans rfl
                  have n5 := (N'.out.cell 5).trans rfl
                  have n6 := (N'.out.cell 6).trans rfl
                  have n7 := (N'.out.cell 7).trans rfl
                  have n8 := (N'.out.cell 8).trans rfl
                  have B := Lib.hid B'.out
                  have N := Lib.hid N'.out
                  clear B' N'
                  go_wp2_with fail
                  refine (HW3.out _).mono ?_
                  rintro e w' ⟨rfl, hb⟩
                  have B' := Lib.hid (B.out.trans (hb.mono B.out.size))
                  have N' := Lib.hid (N.out.below hb N.out.lt)
                  clear n0 n1 n2 n3 n4 n5 n6 n7 n8 hb B N
                  have n0 := (N'.out.cell 0).trans rfl
                  have n1 := (N'.out.cell 1).trans rfl
                  have n2 := (N'.out.cell 2).trans rfl
                  have n3 := (N'.out.cell 3).trans rfl
                  have n4 := (N'.out.cell 4).trans rfl
                  have n5 := (N'.out.cell 5).trans rfl
                  have n6 := (N'.out.cell 6).trans rfl
                  have n7 := (N'.out.cell 7).trans rfl
                  have n8 := (N'.out.cell 8).trans rfl
                  have B := Lib.hid B'.out
                  have N := Lib.hid N'.out
                  clear B' N'
                  go_wp2_with fail
                  refine (HW4.out _ (HG.out _ B.out)).mono ?_
                  rintro e w' ⟨rfl, hb⟩
                  have B' := Lib.hid (B.out.trans (hb.mono B.out.size))
                  have N' := Lib.hid (N.out.below hb N.out.lt)
                  clear n0 n1 n2 n3 n4 n5 n6 n7 n8 hb B N
                  have n0 := (N'.out.cell 0).trans rfl
                  have n1 := (N'.out.cell 1).trans rfl
                  have n2 := (N'.out.cell 2).trans rfl
                  have n3 := (N'.out.cell 3).trans rfl
                  have n4 := (N'.out.cell 4).trans rfl
                  have n5 := (N'.out.cell 5).trans rfl
                  have n6 := (N'.out.cell 6).trans rfl
                  have n7 := (N'.out.cell 7).trans rfl
                  have n8 := (N'.out.cell 8).trans rfl
                  have B := Lib.hid B'.out
                  have N := Lib.hid N'.out
                  clear B' N'
                  go_wp2_with fail
                  refine (HW5.out _).mono ?_
                  rintro e w' ⟨rfl, hb⟩
                  have B' := Lib.hid (B.out.trans (hb.mono B.out.size))
                  have N' := Lib.hid (N.out.below hb N.out.lt)
                  clear n0 n1 n2 n3 n4 n5 n6 n7 n8 hb B N
                  have n0 := (N'.out.cell 0).trans rfl
                  have n1 := (N'.out.cell 1).trans rfl
                  have n2 := (N'.out.cell 2).trans rfl
                  have n3 := (N'.out.cell 3).trans rfl
                  have n4 := (N'.out.cell 4).trans rfl
                  have n5 := (N'.out.cell 5).trans rfl
                  have n6 := (N'.out.cell 6).trans rfl
                  have n7 := (N'.out.cell 7).trans rfl
                  have n8 := (N'.out.cell 8).trans rfl
                  have B := Lib.hid B'.out
                  have N := Lib.hid N'.out
                  clear B' N'
                  go_wp2_with fail
                  refine (HW6.out _).mono ?_
                  rintro e w' ⟨rfl, hb⟩
                  have B' := Lib.hid (B.out.trans (hb.mono B.out.size))
                  have N' := Lib.hid (N.out.below hb N.out.lt)
                  clear n0 n1 n2 n3 n4 n5 n6 n7 n8 hb B N
                  have n0 := (N'.out.cell 0).trans rfl
                  have n1 := (N'.out.cell 1).trans rfl
                  have n2 := (N'.out.cell 2).trans rfl
                  have n3 := (N'.out.cell 3).trans rfl
                  have n4 := (N'.out.cell 4).trans rfl
                  have n5 := (N'.out.cell 5).trans rfl
                  have n6 := (N'.out.cell 6).trans rfl
                  have n7 := (N'.out.cell 7).trans rfl
                  have n8 := (N'.out.cell 8).trans rfl
                  have B := Lib.hid B'.out
                  have N := Lib.hid N'.out
                  clear B' N'
                  go_wp2_with fail
                  refine (HW7.out _).mono ?_
                  rintro e w' ⟨rfl, hb⟩
                  have B' := Lib.hid (B.out.trans (hb.mono B.out.size))
                  have N' := Lib.hid (N.out.below hb N.out.lt)
                  clear n0 n1 n2 n3 n4 n5 n6 n7 n8 hb B N
                  have n0 := (N'.out.cell 0).trans rfl
                  have n1 := (N'.out.cell 1).trans rfl
                  have n2 := (N'.out.cell 2).trans rfl
                  have n3 := (N'.out.cell 3).trans rfl
                  have n4 := (N'.out.cell 4).trans rfl
                  have n5 := (N'.out.cell 5).trans rfl
                  have n6 := (N'.out.cell 6).trans rfl
                  have n7 := (N'.out.cell 7).trans rfl
                  have n8 := (N'.out.cell 8).trans rfl
                  have B := Lib.hid B'.out
                  have N := Lib.hid N'.out
                  clear B' N'
                  go_wp2_with fail
                  refine (HW8.out _).mono ?_
                  rintro e w' ⟨rfl, hb⟩
                  have B' := Lib.hid (B.out.trans (hb.mono B.out.size))
                  have N' := Lib.hid (N.out.below hb N.out.lt)
                  clear n0 n1 n2 n3 n4 n5 n6 n7 n8 hb B N
                  have n0 := (N'.out.cell 0).trans rfl
                  have n1 := (N'.out.cell 1).trans rfl
                  have n2 := (N'.out.cell 2).trans rfl
                  have n3 := (N'.out.cell 3).trans rfl
                  have n4 := (N'.out.cell 4).trans rfl
                  have n5 := (N'.out.cell 5).trans rfl
                  have n6 := (N'.out.cell 6).trans rfl
                  have n7 := (N'.out.cell 7).trans rfl
                  have n8 := (N'.out.cell 8).trans rfl
                  have B := Lib.hid B'.out
                  have N := Lib.hid N'.out
                  clear B' N'
                  go_wp2_with fail
                  go_ret
                  exact ⟨HR.out, B.out⟩
end Go.Proofs.YthboiahdheehkaaGreatDoor
