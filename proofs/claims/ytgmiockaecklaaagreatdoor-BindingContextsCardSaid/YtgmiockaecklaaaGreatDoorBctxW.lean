/-
  BctxW: package binding: what contexts are written with, and read with.
-/
import Derived.Test.YtgmiockaecklaaaGreatDoorBI
import Derived.Test.YtgmiockaecklaaaGreatDoorBctxP
import Derived.Test.YtgmiockaecklaaaGreatDoorBindWA
namespace Go.Proofs.YtgmiockaecklaaaGreatDoor
open Go.RowKit Go.Extern.Stop Go.Stop Go.Extern Ieee

theorem fail_yes (w : World) : Calls Tryz.prog 40 #[.bool true] w (fun e w' => e = .returned (.tuple #[]) ∧ w' = w) := by
  go_enter Tryz.func40, Tryz.ntmps40
  go_wp2_with fail
  go_end0
  exact ⟨rfl, rfl⟩
theorem fail_no (w : World) (E : Nat → Addr) (he : Errs w E) : Calls Tryz.prog 40 #[.bool false] w (fun e w' => e = .panicked (panE E 3) ∧ w' = w) := by
  have cE := he.cell 3 (by omega)
  simp only [errVar, errAt, List.getD_cons_zero, List.getD_cons_succ] at cE
  unfold panE errAt
  go_enter Tryz.func40, Tryz.ntmps40
  go_wp2_with fail
  exact ⟨rfl, rfl, rfl⟩
set_option maxRecDepth 20000 in
theorem inf_any (w : World) : Calls Tryz.prog 45 #[.int .i64 1] w (Gives w (.float .f64 infR)) := by
  have hf := fun w => (show (callFunc 50 #[.int .u64 9218868437227405312]).run Tryz.prog w = .ok (.value (.float .f64 infR)) w from run_frombits 9218868437227405312 w)
  go_enter Tryz.func45, Tryz.ntmps45
  go_wp2_with fail
  refine bodyPost_ret (v := .float .f64 infR) (by simp [results, Tryz.results45, go_sem]) rfl ?_
  exact ⟨rfl, Below.refl _ _⟩
theorem attr_any (n v : List UInt8) (w : World) : Calls Tryz.prog 22 #[.string (bs n), .string (bs v)] w (Gives w (.agg #[.string (bs []), .string (bs n), .string (bs v)])) := by
  have N0 := Blk.new w 54 #[.string ⟨#[]⟩, .string (bs n), .string (bs v)]
  have q0 := (N0.cell 0).trans rfl
  have q1 := (N0.cell 1).trans rfl
  have q2 := (N0.cell 2).trans rfl
  have hb := below_alloc1 w (.cells #[.string ⟨#[]⟩, .string (bs n), .string (bs v)] 54)
  clear N0
  go_enter Tryz.func22, Tryz.ntmps22
  go_wp2_with fail
  refine bodyPost_ret (v := .agg #[.string ⟨#[]⟩, .string (bs n), .string (bs v)]) (by simp [results, Tryz.results22, go_sem, q0, q1, q2]) rfl ?_
  exact ⟨rfl, hb⟩
theorem refattr_any (n v : List UInt8) (w : World) : Calls Tryz.prog 35 #[.string (bs n), .string (bs v)] w (Gives w (.agg #[.string (bs []), .string (bs n), .string (bs v)])) := by
  have N0 := Blk.new w 78 #[.string ⟨#[]⟩, .string (bs n), .string (bs v)]
  have q0 := (N0.cell 0).trans rfl
  have q1 := (N0.cell 1).trans rfl
  have q2 := (N0.cell 2).trans rfl
  have hb := below_alloc1 w (.cells #[.string ⟨#[]⟩, .string (bs n), .string (bs v)] 78)
  clear N0
  go_enter Tryz.func35, Tryz.ntmps35
  go_wp2_with fail
  refine bodyPost_ret (v := .agg #[.string ⟨#[]⟩, .string (bs n), .string (bs v)]) (by simp [results, Tryz.results35, go_sem, q0, q1, q2]) rfl ?_
  exact ⟨rfl, hb⟩
theorem and_15 (x : Nat) : bits .and .u64 (x : Int) 15 = ((x % 16 : Nat) : Int) := by
  show IntKind.u64.wrap ((BitVec.ofInt 64 (x : Int) &&& BitVec.ofInt 64 15).toNat : Int) = _
  rw [BitVec.toNat_and, BitVec.ofInt_natCast, BitVec.toNat_ofNat, show (BitVec.ofInt 64 15).toNat = 2 ^ 4 - 1 from by decide, Nat.and_two_pow_sub_one_eq_mod, IntKind.wrap_u64]
  omega
theorem hexes_get : ∀ d : Fin 16, ∀ h, (⟨#[48, 49, 50, 51, 52, 53, 54, 55, 56, 57, 97, 98, 99, 100, 101, 102]⟩ : ByteArray)[d.val]'h = hexD d.val := by decide
theorem enc_one (c : UInt8) (h : c.toNat < 128) : Utf8.encode (c.toNat : Int) = bs [c] := by
  have hv : Utf8.valid (c.toNat : Int) = true := by
    unfold Utf8.valid
    simp
    omega
  unfold Utf8.encode
  simp only [hv, if_true, Int.toNat_natCast, h, UInt8.ofNat_toNat]
  rfl
theorem conv_one (c : UInt8) (h : c.toNat < 128) (w : World) : (convert 5 9 (.int .u8 (c.toNat : Int))).run Tryz.prog w = .ok (.string (bs [c])) w := by
  rw [run_convert_int_string (P := Tryz.prog) w _ _ _ _ (by kernel_rfl) (by kernel_rfl), enc_one c h]
theorem hexD_low : ∀ d : Fin 16, (hexD d.val).toNat < 128 := by decide
set_option maxRecDepth 200000 in
theorem hex_any (x : Nat) (hx : x < 18446744073709551616) (w : World) : Calls Tryz.prog 20 #[.int .u64 (x : Int)] w (Gives w (.string (bs (hexN 16 x)))) := by
  go_enter Tryz.func20, Tryz.ntmps20
  go_wp2_with fail
  go_loopw [3, 4] (fun o s wr => ∃ j : Nat, j ≤ 16 ∧ s = .int .i64 (60 - 4 * (j : Int)) ∧ o = .string (bs (hexN j (x / 16 ^ (16 - j)))) ∧ w = wr) (fun _ s _ => (intOf s + 4).toNat)
  case atStart => exact ⟨0, by omega, rfl, rfl, rfl⟩
  case round =>
    obtain ⟨j, hj, rfl, rfl, rfl⟩ := hrel
    by_cases hlt : j < 16
    · have d1 : decide ((0 : Int) ≤ 60 - 4 * (j : Int)) = true := decide_eq_true (by omega)
      obtain ⟨k, hk⟩ : ∃ k : Nat, 60 - 4 * (j : Int) = (k : Int) := ⟨60 - 4 * j, by omega⟩
      rw [hk] at d1 ⊢
      generalize hO : hexN j (x / 16 ^ (16 - j)) = O
      have HO := Lib.hid hO
      have HK := Lib.hid hk
      clear hO hk
      have hk2 := HK.out
      have e2 : (x : Int) / 2 ^ min k 64 = ((x / 16 ^ (15 - j) : Nat) : Int) := by
        rw [show min k 64 = 4 * (15 - j) by omega, show (x : Int) / 2 ^ (4 * (15 - j)) = ((x / 2 ^ (4 * (15 - j)) : Nat) : Int) by simp, Nat.pow_mul]
      have HB := Lib.hid (show bits .and .u64 ((x : Int) / 2 ^ min k 64) 15 = ((x / 16 ^ (15 - j) % 16 : Nat) : Int) by rw [e2, and_15])
      have hd : x / 16 ^ (15 - j) % 16 < 16 := Nat.mod_lt _ (by omega)
      have HG := Lib.hid (show ∀ h, (⟨#[48, 49, 50, 51, 52, 53, 54, 55, 56, 57, 97, 98, 99, 100, 101, 102]⟩ : ByteArray)[x / 16 ^ (15 - j) % 16]'h = hexD (x / 16 ^ (15 - j) % 16) from hexes_get ⟨_, hd⟩)
      have HS := Lib.hid (show hexN (j + 1) (x / 16 ^ (16 - (j + 1))) = O ++ [hexD (x / 16 ^ (15 - j) % 16)] by
        rw [← HO.out, show 16 - (j + 1) = 15 - j by omega, hexN, Nat.div_div_eq_div_mul, ← Nat.pow_succ, Nat.succ_eq_add_one, show 15 - j + 1 = 16 - j by omega])
      generalize x / 16 ^ (15 - j) % 16 = d at *
      clear e2 hk2
      repeat (first | go_values | go_skip | go_guarded | go_step | go_upon | go_back)
      rw [HB.out, dif_pos (by omega)]
      simp only [Int.toNat_natCast, HG.out]
      have hcv := fun w => conv_one (hexD d) (hexD_low ⟨d, hd⟩) w
      have hsa := fun w => run_str_add (P := Tryz.prog) w O [hexD d] (by rw [← HO.out, hexN_len]; simp; omega)
      clear HB HG HO
      generalize hexD d = c at *
      have hkw := HK.out
      have hw := Go.IntWalk.wrap64_in ((k : Int) - 4) (by omega)
      go_wp2_with fail
      go_roundw
      case rel => exact ⟨j + 1, by omega, by congr 1; omega, by rw [HS.out], by trivial⟩
      all_goals (simp [intOf]; try omega)
    · obtain rfl : j = 16 := by omega
      go_wp2_with fail
      go_ret
      refine ⟨?_, Below.refl _ _⟩
      rw [Nat.sub_self, Nat.pow_zero, Nat.div_one]
      rfl
def hexesL : List UInt8 := [48, 49, 50, 51, 52, 53, 54, 55, 56, 57, 97, 98, 99, 100, 101, 102]
theorem idx_hex (c : UInt8) : Lib.indexByte hexesL c = if hexB c = true then (hexV c : Int) else -1 := by
  have h : ∀ n : Fin 256, Lib.indexByte hexesL (UInt8.ofNat n.val) = if hexB (UInt8.ofNat n.val) = true then (hexV (UInt8.ofNat n.val) : Int) else -1 := by decide +kernel
  have := h ⟨c.toNat, c.toNat_lt⟩
  simpa using this
/-- ends with a number, or panics with ErrForm -/
def OptR (E : Nat → Addr) (x : Option Int) (w : World) (e : Ending) (w' : World) : Prop :=
  w' = w ∧ ((∃ n, x = some n ∧ e = .returned (.int .i64 n)) ∨ (x = none ∧ e = .panicked (panE E 3)))
theorem bs_inj {a b : List UInt8} (h : bs a = bs b) : a = b := by
  have := congrArg (fun x : ByteArray => x.data.toList) h
  simpa [bs] using this
theorem idx_outs (s : List UInt8) : Lib.idxOfS ((outsL.map bs).take 2) (bs s) = match numF outsL s with | some n => n - 1 | none => -1 := by
  by_cases h1 : s = [97, 116, 111, 109, 105, 99]
  · subst h1; decide +kernel
  · by_cases h2 : s = [109, 105, 120, 101, 100]
    · subst h2; decide +kernel
    · have e : numF outsL s = none := by
        unfold numF outsL
        rw [if_neg]
        have c1 : (([97, 116, 111, 109, 105, 99] : List UInt8) == s) = false := beq_eq_false_iff_ne.2 (Ne.symm h1)
        have c2 : (([109, 105, 120, 101, 100] : List UInt8) == s) = false := beq_eq_false_iff_ne.2 (Ne.symm h2)
        rw [List.idxOf_cons, List.idxOf_cons, c1, c2]
        simp
      rw [e]
      have b1 : bs [97, 116, 111, 109, 105, 99] ≠ bs s := fun h => h1 (bs_inj h).symm
      have b2 : bs [109, 105, 120, 101, 100] ≠ bs s := fun h => h2 (bs_inj h).symm
      simp [Lib.idxOfS, Lib.idxFromS, outsL, b1, b2]
theorem number_any (s : List UInt8) (w : World) (E : Nat → Addr) (he : Errs w E) (ht : Tab w 1 outsL) :
    Calls Tryz.prog 43 #[.slice (some ⟨1, 0, none⟩) 2 2, .string (bs s)] w (OptR E (numF outsL s) w) := by
  have HI := Lib.hid (Tryz.slices_Index_string 1 0 2 2 (outsL.map bs) (bs s) w (by decide) (by omega) (fun j hj => by
    have hj' : j < outsL.length := by simpa using hj
    rw [Nat.zero_add, ht j hj', List.getD_eq_getElem?_getD, List.getD_eq_getElem?_getD, List.getElem?_map]
    simp [hj']))
  rw [idx_outs] at HI
  cases hn : numF outsL s with
  | some n =>
    rw [hn] at HI
    have h0 := (out_some hn).2
    have d0 : decide ((1 : Int) ≤ n) = true := decide_eq_true (by omega)
    have HF := Lib.hid (fun w => fail_yes w)
    have hw : wrap64 n = n := Go.IntWalk.wrap64_in n (by omega)
    clear hn ht he h0
    go_enter Tryz.func43, Tryz.ntmps43
    go_wp2_with fail
    refine HI.out.mono ?_
    rintro e w1 ⟨rfl, rfl⟩
    go_wp2_with fail
    refine (HF.out w1).mono ?_
    rintro e w2 ⟨rfl, rfl⟩
    go_wp2_with fail
    go_ret
    refine ⟨rfl, .inl ⟨n, rfl, ?_⟩⟩
    first | rfl | (rw [hw]; rfl)
  | none =>
    rw [hn] at HI
    have HF := Lib.hid (fail_no w E he)
    have HP := Lib.hid (show panE E 3 = panE E 3 from rfl)
    clear hn ht he
    go_enter Tryz.func43, Tryz.ntmps43
    go_wp2_with fail
    refine HI.out.mono ?_
    rintro e w1 ⟨rfl, rfl⟩
    go_wp2_with fail
    refine HF.out.mono ?_
    rintro e w2 ⟨rfl, rfl⟩
    unfold panE errAt
    go_wp2_with fail
    exact ⟨rfl, rfl, .inr ⟨rfl, rfl⟩⟩
end Go.Proofs.YtgmiockaecklaaaGreatDoor
