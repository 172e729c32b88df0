/-
  IdsL: the laws of chapter 5: alive, told; the document's texts.
-/
import Derived.Test.YtehdbiilbbbbpaaDoorIdsW2
import Derived.Test.YtehdbiilbbbbpaaDoorIdsR5
import Derived.IntWalk
namespace Go.Proofs.YtehdbiilbbbbpaaDoor
open Go.RowKit Go.Extern.Stop Go.Stop Go.Extern

set_option maxRecDepth 20000 in
theorem alive_any (w : World) (E : Nat → Addr) (h : IdsG w E) :
    Calls Tryd.prog 7 #[] w fun e w' => e = .returned (.bool true) ∧ Below w.heap.size w w' := by
  have HG := Lib.hid h
  have HA := Lib.hid (act_any w E 2 17 (by omega) (by omega) h)
  have hT : actT 2 17 = some [97, 50, 46, 49, 55] := by decide +kernel
  have hN : toNodeT [110, 52] = .error 0 := by rfl
  have HN := Lib.hid (fun w (he : Errs w E) => by have := toNode_any [110, 52] (by simp) w E he; rw [hN] at this; exact this)
  rw [hT] at HA
  have hq : ((bs [97, 50, 46, 49, 55]).toList == [97, 50, 46, 49, 55]) = true := by rw [bs_toList]; rfl
  clear h hT hN
  unfold actV at HA
  go_enter Tryd.func7, Tryd.ntmps7
  go_wp2_with fail
  refine HA.out.mono ?_
  rintro e w1 ⟨hb1, rfl⟩
  rw [show errV E (ebad (some ([97, 50, 46, 49, 55] : List UInt8))) = .nilIface from rfl]
  have HB1 := Lib.hid hb1
  clear hb1
  go_wp2_with fail
  refine (HN.out w1 (HG.out.below HB1.out).errs).mono ?_
  rintro e w2 ⟨hb2, rfl, _⟩
  have HB2 := Lib.hid (HB1.out.trans (hb2.mono HB1.out.size))
  have HM := Lib.hid (num_any w2 E 1 (by omega) (HG.out.below HB2.out).errs)
  rw [show xbad (Except.error 0 : Except Nat Nat) = 1 from rfl]
  rw [show errV E 1 = .iface 124 (.pointer (some (E 0))) from rfl] at HM ⊢
  clear hb2
  go_wp2_with fail
  refine HM.out.mono ?_
  rintro e w3 ⟨rfl, hb3⟩
  have HB3 := Lib.hid (HB2.out.trans (hb3.mono HB2.out.size))
  clear hb3
  go_wp2_with fail
  go_ret
  exact ⟨rfl, HB3.out⟩
theorem conv_digit (k : Nat) (w : World) : (convert 3 5 (.int .i64 (48 + (k : Int)))).run Tryd.prog w = .ok (.int .u8 ((UInt8.ofNat (48 + k)).toNat : Int)) w := by
  go_simp
  exact IntKind.wrap_u8 _
set_option maxRecDepth 20000 in
/-- the digits of the document -/
theorem refdig_any (n : Nat) (hn : n ≤ 1000000) (w : World) : Calls Tryd.prog 13 #[.int .i64 (n : Int)] w fun e w' => e = .returned (.string (bs (dec n))) ∧ Below w.heap.size w w' := by
  induction n using Nat.strongRecOn generalizing w with
  | _ n ih =>
    by_cases h : n < 10
    · have d : decide ((n : Int) < 10) = true := decide_eq_true (by omega)
      have d' : decide (n < 10) = true := decide_eq_true h
      have HD := Lib.hid (dec_small h)
      have hc := conv_digit n
      generalize UInt8.ofNat (48 + n) = c at *
      have hby := byt_one w c 5 (0, 0) w.heap.size rfl
      have hs := run_str (P := Tryd.prog) Tryd.underlying57 Tryd.underlying5 Tryd.underlying9 hby
      have HB := Lib.hid (below_alloc1 w (.cells #[.int .u8 (c.toNat : Int)] 5))
      clear ih hby
      go_enter Tryd.func13, Tryd.ntmps13
      go_wp2_with fail
      go_ret
      rw [HD.out]
      exact ⟨rfl, HB.out⟩
    · have d : decide ((n : Int) < 10) = false := decide_eq_false (by omega)
      have d' : decide (n < 10) = false := decide_eq_false h
      have HD := Lib.hid (show dec n = dec (n / 10) ++ [UInt8.ofNat (48 + n % 10)] by rw [dec_def, if_neg h])
      have HI := Lib.hid (ih (n / 10) (by omega) (by omega))
      have hl := (dec_len (n / 10) 5 (by omega)).2
      have hc := conv_digit (n % 10)
      have q1 : (n : Int).tdiv 10 = ((n / 10 : Nat) : Int) := by rw [Int.tdiv_eq_ediv_of_nonneg (by omega)]; omega
      have q2 : (n : Int).tmod 10 = ((n % 10 : Nat) : Int) := by rw [Int.tmod_eq_emod_of_nonneg (by omega)]; omega
      have hn2 : n % 10 < 10 := Nat.mod_lt _ (by omega)
      have hn1 : n / 10 ≤ 100000 := by omega
      generalize UInt8.ofNat (48 + n % 10) = c at *
      generalize dec (n / 10) = D at *
      generalize n / 10 = n1 at *
      generalize n % 10 = n2 at *
      clear ih
      go_enter Tryd.func13, Tryd.ntmps13
      go_wp2_with fail
      have w1 : IntKind.i64.wrap (48 + (n2 : Int)) = 48 + (n2 : Int) := IntWalk.i64_in _ (by omega)
      have w2 : IntKind.i64.wrap (n1 : Int) = (n1 : Int) := IntWalk.i64_in _ (by omega)
      have w3 : IntKind.i64.wrap (n2 : Int) = (n2 : Int) := IntWalk.i64_in _ (by omega)
      refine wp_phi_tail (List.take 10 _) (List.drop 10 _) (List.take_append_drop 10 _).symm (fun w' => Below w.heap.size w w') [(2, PVal (.string (bs D))), (7, PByt [c]), (8, PVal (.string (bs [c])))] [(8, [7])] (by kernel_rfl) (by kernel_rfl) ?_ ?_ (Below.refl _ _).drew ?_
      · intro w1' w2' h1 hb
        exact h1.trans (hb.mono h1.size)
      · simp only [List.mem_cons, List.not_mem_nil, or_false, forall_eq_or_imp, forall_eq]
        exact ⟨fun _ _ _ _ _ h => h, fun w w' v _ hb h => PByt_stays _ w w' v hb h, fun _ _ _ _ _ h => h⟩
      simp only [List.take_succ_cons, List.take_zero, List.drop_succ_cons, List.drop_zero]
      repeat (first | (refine phi_skipK rfl (fun K hK => ?_); simp only [Act.put, List.setIfInBounds_toArray, List.set_cons_succ, List.set_cons_zero]; (try simp only [List.cons_append]); (try simp only [List.nil_append]); apply hK; clear hK K) | (refine phi_pureK rfl rfl (fun K hK => ?_); apply Exists.intro; constructor; (focus (rintro w' h1; (skip); first | (go_simp; done) | (go_simp; (try go_bits); (try go_simp); rfl) | go_simp)); simp only [Act.put, List.setIfInBounds_toArray, List.set_cons_succ, List.set_cons_zero]; (try simp only [List.cons_append]); (try simp only [List.nil_append]); apply hK; clear hK K))
      refine phi_partK (PVal (.string (bs D))) rfl rfl ⟨_, rfl⟩ ?_ (fun K hK v hv => ?_)
      · intro w' h1 _
        unfold gives
        go_simp
        refine (HI.out w').mono ?_
        rintro e w'' ⟨rfl, hb⟩
        exact ⟨_, rfl, rfl, trivial, hb⟩
      obtain rfl : v = _ := hv
      simp only [Act.put, List.setIfInBounds_toArray, List.set_cons_succ, List.set_cons_zero]; (try simp only [List.cons_append]); (try simp only [List.nil_append])
      apply hK
      clear hK K
      repeat (first | (refine phi_skipK rfl (fun K hK => ?_); simp only [Act.put, List.setIfInBounds_toArray, List.set_cons_succ, List.set_cons_zero]; (try simp only [List.cons_append]); (try simp only [List.nil_append]); apply hK; clear hK K) | (refine phi_pureK rfl rfl (fun K hK => ?_); apply Exists.intro; constructor; (focus (rintro w' h1; (have h9 := hc w'); first | (go_simp; done) | (go_simp; (try go_bits); (try go_simp); rfl) | go_simp)); simp only [Act.put, List.setIfInBounds_toArray, List.set_cons_succ, List.set_cons_zero]; (try simp only [List.cons_append]); (try simp only [List.nil_append]); apply hK; clear hK K))
      refine phi_partK (PByt [c]) rfl rfl ⟨_, none, 0, rfl⟩ ?_ (fun K hK v hv => ?_)
      · intro w' h1 _
        unfold gives
        go_simp
        exact ⟨⟨_, _, rfl⟩, byt_one w' _ _ _ _ rfl, below_alloc1 _ _⟩
      obtain ⟨p', c', rfl⟩ := hv
      simp only [Act.put, List.setIfInBounds_toArray, List.set_cons_succ, List.set_cons_zero]; (try simp only [List.cons_append]); (try simp only [List.nil_append])
      apply hK
      clear hK K
      refine phi_partK (PVal (.string (bs [c]))) rfl rfl ⟨_, rfl⟩ ?_ (fun K hK v hv => ?_)
      · intro w' h1 hf
        have hby : Byt w' _ [c] := hf (7, fun w => (PByt [c]).fact w (.slice p' [c].length c')) (by simp) (List.contains_iff_mem.1 rfl)
        have hs := run_str (P := Tryd.prog) Tryd.underlying57 Tryd.underlying5 Tryd.underlying9 hby
        rw [show ([c] : List UInt8).length = 1 from rfl] at hs
        clear hf hby
        unfold gives
        go_simp
        exact ⟨rfl, trivial, Below.refl _ _⟩
      obtain rfl : v = _ := hv
      simp only [Act.put, List.setIfInBounds_toArray, List.set_cons_succ, List.set_cons_zero]; (try simp only [List.cons_append]); (try simp only [List.nil_append])
      apply hK
      clear hK K
      repeat (first | (refine phi_skipK rfl (fun K hK => ?_); simp only [Act.put, List.setIfInBounds_toArray, List.set_cons_succ, List.set_cons_zero]; (try simp only [List.cons_append]); (try simp only [List.nil_append]); apply hK; clear hK K) | (refine phi_pureK rfl rfl (fun K hK => ?_); apply Exists.intro; constructor; (focus (rintro w' h1; (have s1 := run_str_add (P := Tryd.prog) w' D [c] (by simp; omega)); first | (go_simp; done) | (go_simp; (try go_bits); (try go_simp); rfl) | go_simp)); simp only [Act.put, List.setIfInBounds_toArray, List.set_cons_succ, List.set_cons_zero]; (try simp only [List.cons_append]); (try simp only [List.nil_append]); apply hK; clear hK K))
      refine phi_done ?_
      rintro w1 h1 _
      have HB := Lib.hid h1
      clear h1
      go_wp2_with fail
      go_ret
      rw [HD.out]
      exact ⟨rfl, HB.out⟩
end Go.Proofs.YtehdbiilbbbbpaaDoor
