/-
  XmlRE: package xml's reader: name.
  XmlRF: package xml's reader: references.
-/
import Derived.Test.YtkghpmpmcafhkaaGreatDoorQA
import Derived.Laws.Runes
namespace Go.Proofs.YtkghpmpmcafhkaaGreatDoor
open Go.RowKit
attribute [local go_sem] bs_toList

theorem tw_at (p : UInt8 → Bool) : ∀ (s : List UInt8) (k : Nat) (h : k < s.length), k < (s.takeWhile p).length → p s[k] = true
  | c :: s, 0, h, hk => by
    rw [List.takeWhile_cons] at hk
    cases hc : p c
    · rw [hc] at hk; simp at hk
    · exact hc
  | c :: s, k + 1, h, hk => by
    rw [List.takeWhile_cons] at hk
    cases hc : p c
    · rw [hc] at hk; simp at hk
    · rw [hc] at hk
      exact tw_at p s k (by simpa using h) (by simpa using hk)
theorem tw_end (p : UInt8 → Bool) : ∀ (s : List UInt8) (h : (s.takeWhile p).length < s.length), p (s[(s.takeWhile p).length]'h) = false
  | [], h => by simp at h
  | c :: s, h => by
    cases hc : p c
    · have : ((c :: s).takeWhile p) = [] := by rw [List.takeWhile_cons, hc]; rfl
      simp only [this, List.length_nil, List.getElem_cons_zero]
      exact hc
    · have : ((c :: s).takeWhile p) = c :: s.takeWhile p := by rw [List.takeWhile_cons, hc]; rfl
      simp only [this, List.length_cons] at h ⊢
      exact tw_end p s (by omega)
/-- the library's tables lie below the reader -/
def LibX (r : Nat) (w : World) (E : Nat → Addr) : Prop := ∃ W0 : World, W0.heap.size ≤ r ∧ Below W0.heap.size W0 w ∧ LibG W0 ∧ Errs W0 E
theorem LibX.lib {r : Nat} {w : World} {E : Nat → Addr} (h : LibX r w E) : LibG w := by
  obtain ⟨W0, _, hb, hg, _⟩ := h
  exact hg.below hb
theorem LibX.errs {r : Nat} {w : World} {E : Nat → Addr} (h : LibX r w E) : Errs w E := by
  obtain ⟨W0, _, hb, _, he⟩ := h
  exact he.below hb
theorem LibX.but {r : Nat} {w w' : World} {E : Nat → Addr} (h : LibX r w E) (hb : But [r] w w') : LibX r w' E := by
  obtain ⟨W0, hr, hb0, hg, he⟩ := h
  exact ⟨W0, hr, hb0.trans (hb.below (by intro s hs; rw [List.mem_singleton.1 hs]; exact hr) hb0.size), hg, he⟩
set_option maxRecDepth 20000 in
set_option maxHeartbeats 2000000 in
theorem rname_y {r : Nat} {s a b : List UInt8} {d : Int} (E : Nat → Addr) (w : World) (hx : LibX r w E) (hr : Rr w r s d) (hs : s.length ≤ 1000000) (h : nameR s = some (a, b)) :
    Calls Tryz.prog 104 #[.pointer (some ⟨r, 0, none⟩)] w fun e w' => e = .returned (.string (bs a)) ∧ Rr w' r b d ∧ But [r] w w' := by
  unfold nameR at h
  split at h
  rotate_left 1
  · cases h
  rename_i hnm
  cases h
  have hsz := bs_size s
  have hle := tw_le nmC s
  have ht := take_tw nmC s
  have hd := drop_tw nmC s
  have HK1 := Lib.hid (fun k hk => tw_at nmC s k hk)
  have HK2 := Lib.hid (tw_end nmC s)
  have HN := Lib.hid (fun w (hg : LibG w) => name_any (s.takeWhile nmC) (by omega) w hg)
  rw [hnm] at HN
  clear hnm
  generalize s.takeWhile nmC = A at *
  generalize s.dropWhile nmC = B at *
  have s1 : ∀ w, (Instr.slice 9 (.string (bs s)) none (some (.int .i64 (A.length : Int))) none).run Tryz.prog w = .ok (.string (bs A)) w := fun w => by
    have := run_str_to Tryz.underlying9 s A.length hle w
    rwa [ht] at this
  have s2 : ∀ w, (Instr.slice 9 (.string (bs s)) (some (.int .i64 (A.length : Int))) none none).run Tryz.prog w = .ok (.string (bs B)) w := fun w => by
    have := run_str_from Tryz.underlying9 s A.length hle w
    rwa [hd] at this
  have HLE := Lib.hid hle
  have c0 := (hr.cell 0).trans rfl
  have f0 := hr.frozen 0
  have HRB := Lib.hid (Rr.set0 hr B)
  have hbut := (But.of_below (S := [r]) (Below.refl w.heap.size w)).set_ r 0 (.string (bs B)) (by simp)
  have HBB := Lib.hid hbut
  have HLX := Lib.hid (hx.but hbut)
  have HF := Lib.hid (fun w => xfail_y w)
  clear ht hd hle hr hx hbut
  go_enter Tryz.func104, Tryz.ntmps104
  go_wp2_with fail
  obtain ⟨wo, rfl⟩ : ∃ wo, wo = w := ⟨_, rfl⟩
  go_loopw [3] (fun i wr => ∃ k : Nat, k ≤ A.length ∧ i = .int .i64 k ∧ wr = wo) (fun i _ => s.length - (intOf i).toNat)
  case atStart => exact ⟨0, by omega, rfl, rfl⟩
  case round =>
    obtain ⟨k, hk, rfl, rfl⟩ := hrel
    by_cases hlt : k < s.length
    · have hki : (k : Int) < ((bs s).size : Int) := by rw [hsz]; omega
      have hlk : (bs s)[k]'(by rw [hsz]; exact hlt) = s[k] := rfl
      have HS := Lib.hid (sign_any s[k] wr)
      have HK3 := Lib.hid (HK1.out k hlt)
      by_cases hkA : k < A.length
      · have hn := HK3.out hkA
        unfold nmC at hn
        clear HK3
        have HC := Lib.hid hn
        cases hs : sgnB s[k]
        · rw [hs] at HS hn
          have h58 : ((s[k].toNat : Int) == 58) = true := by
            have : s[k] = 58 := by simpa using hn
            rw [this]
            rfl
          clear hn hs HC
          go_wp2_with (go_at_call 102; refine HS.out.mono ?_; rintro e w1 ⟨rfl, rfl⟩)
          go_roundw
          case rel => exact ⟨k + 1, by omega, by go_num, trivial⟩
          case measure => simp [intOf]; omega
        · rw [hs] at HS
          clear hn hs HC
          go_wp2_with (go_at_call 102; refine HS.out.mono ?_; rintro e w1 ⟨rfl, rfl⟩)
          go_roundw
          case rel => exact ⟨k + 1, by omega, by go_num, trivial⟩
          case measure => simp [intOf]; omega
      · obtain rfl : k = A.length := by omega
        have hn := HK2.out hlt
        unfold nmC at hn
        rw [Bool.or_eq_false_iff] at hn
        rw [hn.1] at HS
        have h58 : ((s[A.length].toNat : Int) == 58) = false := by
          rw [beq_eq_false_iff_ne]
          have := beq_eq_false_iff_ne.1 hn.2
          intro e
          exact this (UInt8.toNat_inj.1 (by
            have : (58 : UInt8).toNat = 58 := rfl
            omega))
        clear hn HK3
        go_wp2_with (go_at_call 102; refine HS.out.mono ?_; rintro e w1 ⟨rfl, rfl⟩)
        refine (HN.out _ HLX.out.lib).mono ?_
        rintro e w2 ⟨rfl, hb2⟩
        have HR2 := Lib.hid (HRB.out.below hb2 HRB.out.lt)
        have HB2 := Lib.hid (HBB.out.trans (But.of_below hb2))
        clear hb2
        go_wp2_with (go_at_call 67; refine (HF.out _).mono ?_; rintro e w3 ⟨rfl, rfl⟩)
        go_ret
        exact ⟨rfl, HR2.out, HB2.out⟩
    · obtain rfl : k = A.length := by
        have := HLE.out
        omega
      go_wp2_with fail
      refine (HN.out _ HLX.out.lib).mono ?_
      rintro e w2 ⟨rfl, hb2⟩
      have HR2 := Lib.hid (HRB.out.below hb2 HRB.out.lt)
      have HB2 := Lib.hid (HBB.out.trans (But.of_below hb2))
      clear hb2
      go_wp2_with (go_at_call 67; refine (HF.out _).mono ?_; rintro e w3 ⟨rfl, rfl⟩)
      go_ret
      exact ⟨rfl, HR2.out, HB2.out⟩
set_option maxRecDepth 20000 in
set_option maxHeartbeats 2000000 in
theorem rname_n {r : Nat} {s : List UInt8} {d : Int} (E : Nat → Addr) (w : World) (hx : LibX r w E) (hr : Rr w r s d) (hs : s.length ≤ 1000000) (h : nameR s = none) :
    Calls Tryz.prog 104 #[.pointer (some ⟨r, 0, none⟩)] w fun e w' => e = .panicked (panE E 3) ∧ But [r] w w' ∧ ∃ s', Rr w' r s' d := by
  unfold nameR at h
  split at h
  · cases h
  rename_i hnm
  have hsz := bs_size s
  have hle := tw_le nmC s
  have ht := take_tw nmC s
  have hd := drop_tw nmC s
  have HK1 := Lib.hid (fun k hk => tw_at nmC s k hk)
  have HK2 := Lib.hid (tw_end nmC s)
  have HN := Lib.hid (fun w (hg : LibG w) => name_any (s.takeWhile nmC) (by omega) w hg)
  rw [Bool.eq_false_iff.2 hnm] at HN
  clear hnm
  generalize s.takeWhile nmC = A at *
  generalize s.dropWhile nmC = B at *
  have s1 : ∀ w, (Instr.slice 9 (.string (bs s)) none (some (.int .i64 (A.length : Int))) none).run Tryz.prog w = .ok (.string (bs A)) w := fun w => by
    have := run_str_to Tryz.underlying9 s A.length hle w
    rwa [ht] at this
  have s2 : ∀ w, (Instr.slice 9 (.string (bs s)) (some (.int .i64 (A.length : Int))) none none).run Tryz.prog w = .ok (.string (bs B)) w := fun w => by
    have := run_str_from Tryz.underlying9 s A.length hle w
    rwa [hd] at this
  have HLE := Lib.hid hle
  have c0 := (hr.cell 0).trans rfl
  have f0 := hr.frozen 0
  have HRB := Lib.hid (Rr.set0 hr B)
  have hbut := (But.of_below (S := [r]) (Below.refl w.heap.size w)).set_ r 0 (.string (bs B)) (by simp)
  have HBB := Lib.hid hbut
  have HLX := Lib.hid (hx.but hbut)
  clear ht hd hle hr hx hbut
  go_enter Tryz.func104, Tryz.ntmps104
  go_wp2_with fail
  obtain ⟨wo, rfl⟩ : ∃ wo, wo = w := ⟨_, rfl⟩
  go_loopw [3] (fun i wr => ∃ k : Nat, k ≤ A.length ∧ i = .int .i64 k ∧ wr = wo) (fun i _ => s.length - (intOf i).toNat)
  case atStart => exact ⟨0, by omega, rfl, rfl⟩
  case round =>
    obtain ⟨k, hk, rfl, rfl⟩ := hrel
    by_cases hlt : k < s.length
    · have hki : (k : Int) < ((bs s).size : Int) := by rw [hsz]; omega
      have hlk : (bs s)[k]'(by rw [hsz]; exact hlt) = s[k] := rfl
      have HS := Lib.hid (sign_any s[k] wr)
      have HK3 := Lib.hid (HK1.out k hlt)
      by_cases hkA : k < A.length
      · have hn := HK3.out hkA
        unfold nmC at hn
        clear HK3
        have HC := Lib.hid hn
        cases hs : sgnB s[k]
        · rw [hs] at HS hn
          have h58 : ((s[k].toNat : Int) == 58) = true := by
            have : s[k] = 58 := by simpa using hn
            rw [this]
            rfl
          clear hn hs HC
          go_wp2_with (go_at_call 102; refine HS.out.mono ?_; rintro e w1 ⟨rfl, rfl⟩)
          go_roundw
          case rel => exact ⟨k + 1, by omega, by go_num, trivial⟩
          case measure => simp [intOf]; omega
        · rw [hs] at HS
          clear hn hs HC
          go_wp2_with (go_at_call 102; refine HS.out.mono ?_; rintro e w1 ⟨rfl, rfl⟩)
          go_roundw
          case rel => exact ⟨k + 1, by omega, by go_num, trivial⟩
          case measure => simp [intOf]; omega
      · obtain rfl : k = A.length := by omega
        have hn := HK2.out hlt
        unfold nmC at hn
        rw [Bool.or_eq_false_iff] at hn
        rw [hn.1] at HS
        have h58 : ((s[A.length].toNat : Int) == 58) = false := by
          rw [beq_eq_false_iff_ne]
          have := beq_eq_false_iff_ne.1 hn.2
          intro e
          exact this (UInt8.toNat_inj.1 (by
            have : (58 : UInt8).toNat = 58 := rfl
            omega))
        clear hn HK3
        go_wp2_with (go_at_call 102; refine HS.out.mono ?_; rintro e w1 ⟨rfl, rfl⟩)
        refine (HN.out _ HLX.out.lib).mono ?_
        rintro e w2 ⟨rfl, hb2⟩
        have HF := Lib.hid (xfail_n w2 E (HLX.out.errs.below hb2))
        have HR2 := Lib.hid (HRB.out.below hb2 HRB.out.lt)
        have HB2 := Lib.hid (HBB.out.trans (But.of_below hb2))
        clear hb2
        go_wp2_with (go_at_call 67; refine HF.out.mono ?_; rintro e w3 ⟨rfl, rfl⟩)
        exact ⟨rfl, rfl, HB2.out, _, HR2.out⟩
    · obtain rfl : k = A.length := by
        have := HLE.out
        omega
      go_wp2_with fail
      refine (HN.out _ HLX.out.lib).mono ?_
      rintro e w2 ⟨rfl, hb2⟩
      have HF := Lib.hid (xfail_n w2 E (HLX.out.errs.below hb2))
      have HR2 := Lib.hid (HRB.out.below hb2 HRB.out.lt)
      have HB2 := Lib.hid (HBB.out.trans (But.of_below hb2))
      clear hb2
      go_wp2_with (go_at_call 67; refine HF.out.mono ?_; rintro e w3 ⟨rfl, rfl⟩)
      exact ⟨rfl, rfl, HB2.out, _, HR2.out⟩
end Go.Proofs.YtkghpmpmcafhkaaGreatDoor

namespace Go.Proofs.YtkghpmpmcafhkaaGreatDoor
open Go.RowKit
attribute [local go_sem] bs_toList

theorem enc_bs {n : Nat} (h : mayB n = true) : Utf8.encode (n : Int) = bs (Lib.encodeRune (n : Int)) := by
  have hv : (n < 55296 ∨ (57343 < n ∧ n ≤ 1114111)) := by
    have := mayB_I n
    rw [h] at this
    split at this
    · omega
    · split at this
      · cases this
      · have := this.symm
        simp only [Bool.or_eq_true, Bool.and_eq_true, decide_eq_true_eq] at this
        omega
  have hva : Utf8.valid (n : Int) = true := by
    rw [validRune_eq]
    unfold validRune
    exact decide_eq_true (by omega)
  unfold Utf8.encode Lib.encodeRune
  rw [hva]
  simp only [if_true, Int.toNat_natCast]
  by_cases h1 : n < 128
  · rw [if_pos h1, Lib.encodeRuneZ_one (by omega) (by omega)]
    simp [bs]
  · rw [if_neg h1]
    by_cases h2 : n < 2048
    · rw [if_pos h2, Lib.encodeRuneZ_two (by omega) (by omega)]
      have e1 : ((192 : Int) + (n : Int) / 64).toNat = 192 + n / 64 := by omega
      have e2 : ((128 : Int) + (n : Int) % 64).toNat = 128 + n % 64 := by omega
      simp only [List.map_cons, List.map_nil, e1, e2, bs]
    · rw [if_neg h2]
      by_cases h3 : n < 65536
      · rw [if_pos h3, Lib.encodeRuneZ_three (by omega)]
        have e1 : ((224 : Int) + (n : Int) / 4096).toNat = 224 + n / 4096 := by omega
        have e2 : ((128 : Int) + (n : Int) / 64 % 64).toNat = 128 + n / 64 % 64 := by omega
        have e3 : ((128 : Int) + (n : Int) % 64).toNat = 128 + n % 64 := by omega
        simp only [List.map_cons, List.map_nil, e1, e2, e3, bs]
      · rw [if_neg h3, Lib.encodeRuneZ_four (by omega) (by omega)]
        have e1 : ((240 : Int) + (n : Int) / 262144).toNat = 240 + n / 262144 := by omega
        have e2 : ((128 : Int) + (n : Int) / 4096 % 64).toNat = 128 + n / 4096 % 64 := by omega
        have e3 : ((128 : Int) + (n : Int) / 64 % 64).toNat = 128 + n / 64 % 64 := by omega
        have e4 : ((128 : Int) + (n : Int) % 64).toNat = 128 + n % 64 := by omega
        simp only [List.map_cons, List.map_nil, e1, e2, e3, e4, bs]
/-- a number below nothing is no sign -/
theorem may_neg (z : Int) (h : z < 0) (w : World) : Calls Tryz.prog 56 #[.int .i32 z] w fun e w' => e = .returned (.bool false) ∧ w' = w := by
  have g1 : decide (z < 32) = true := decide_eq_true (by omega)
  have h2 : (z == 9) = false := by rw [beq_eq_false_iff_ne]; omega
  have h3 : (z == 10) = false := by rw [beq_eq_false_iff_ne]; omega
  have h4 : (z == 13) = false := by rw [beq_eq_false_iff_ne]; omega
  clear h
  go_enter Tryz.func56, Tryz.ntmps56
  go_wp2_with fail
  go_ret
  exact ⟨rfl, rfl⟩
/-- whatever the number of up to 32 bits is -/
theorem may_i32 (n : Nat) (h : n < 4294967296) (w : World) : Calls Tryz.prog 56 #[.int .i32 (wrap32 (n : Int))] w fun e w' => e = .returned (.bool (mayB n)) ∧ w' = w := by
  by_cases hn : n < 2147483648
  · have : wrap32 (n : Int) = (n : Int) := by
      unfold wrap32
      omega
    rw [this]
    exact may_any n w
  · have hz : wrap32 (n : Int) < 0 := by
      unfold wrap32
      omega
    have hm : mayB n = false := by
      rw [mayB_I, if_neg (by omega)]
      split
      · rfl
      · simp only [Bool.or_eq_false_iff, Bool.and_eq_false_iff, decide_eq_false_iff_not]
        omega
    rw [hm]
    exact may_neg _ hz w
def digsL : List UInt8 := [48, 49, 50, 51, 52, 53, 54, 55, 56, 57, 97, 98, 99, 100, 101, 102]
theorem dig_idx (c : UInt8) : Lib.indexByte digsL c = match digF c with | some d => (d : Int) | none => -1 := by
  have h : ∀ n : Fin 256, Lib.indexByte digsL (UInt8.ofNat n.val) = match digF (UInt8.ofNat n.val) with | some d => (d : Int) | none => -1 := by decide +kernel
  have := h ⟨c.toNat, c.toNat_lt⟩
  simpa using this
theorem dig_lt {c : UInt8} {d : Nat} (h : digF c = some d) : d < 16 := by
  unfold digF at h
  split at h
  · cases h; omega
  · split at h
    · cases h; omega
    · cases h
/-- what a reference's call ends with -/
def RefG (E : Nat → Addr) (o : Option (List UInt8)) (w : World) (e : Ending) (w' : World) : Prop :=
  w' = w ∧ match o with | some t => e = .returned (.string (bs t)) | none => e = .panicked (panE E 3)
theorem cutP_y (c : UInt8) (u : List UInt8) (w : World) : Calls Tryz.prog 132 #[.string (bs (c :: u)), .string ⟨#[c]⟩] w fun e w' => e = .returned (.tuple #[.string (bs u), .bool true]) ∧ w' = w := by
  have h := Tryz.strings_CutPrefix (bs (c :: u)) ⟨#[c]⟩ w
  have e1 : Lib.hasPrefix (c :: u) [c] = true := by unfold Lib.hasPrefix; simp
  have e2 : Lib.trimPrefix (c :: u) [c] = u := by unfold Lib.trimPrefix; rw [if_pos e1]; rfl
  rw [show (bs (c :: u)).data.toList = c :: u by simp [bs], show (⟨#[c]⟩ : ByteArray).data.toList = [c] from rfl, e1, e2, bs_arr] at h
  exact h
theorem cutP_n (c : UInt8) (s : List UInt8) (hs : ∀ u, s ≠ c :: u) (w : World) : Calls Tryz.prog 132 #[.string (bs s), .string ⟨#[c]⟩] w fun e w' => e = .returned (.tuple #[.string (bs s), .bool false]) ∧ w' = w := by
  have h := Tryz.strings_CutPrefix (bs s) ⟨#[c]⟩ w
  have e1 : Lib.hasPrefix s [c] = false := by
    unfold Lib.hasPrefix
    cases s with
    | nil => rfl
    | cons x u =>
      rw [List.isPrefixOf_cons_cons]
      have : (c == x) = false := by rw [beq_eq_false_iff_ne]; rintro rfl; exact hs u rfl
      rw [this]
      rfl
  have e2 : Lib.trimPrefix s [c] = s := by unfold Lib.trimPrefix; rw [if_neg (by rw [e1]; simp)]
  rw [show (bs s).data.toList = s by simp [bs], show (⟨#[c]⟩ : ByteArray).data.toList = [c] from rfl, e1, e2, bs_arr] at h
  exact h
theorem idx_dig (c : UInt8) (w : World) : Calls Tryz.prog 175 #[.string ⟨#[48, 49, 50, 51, 52, 53, 54, 55, 56, 57, 97, 98, 99, 100, 101, 102]⟩, .int .u8 c.toNat] w fun e w' => e = .returned (.int .i64 (match digF c with | some d => (d : Int) | none => -1)) ∧ w' = w := by
  have h := Tryz.strings_IndexByte ⟨#[48, 49, 50, 51, 52, 53, 54, 55, 56, 57, 97, 98, 99, 100, 101, 102]⟩ (c.toNat : Int) w
  rw [show (⟨#[48, 49, 50, 51, 52, 53, 54, 55, 56, 57, 97, 98, 99, 100, 101, 102]⟩ : ByteArray).data.toList = digsL from rfl, show ((c.toNat : Int)).toNat.toUInt8 = c by simp, dig_idx] at h
  exact h
set_option maxRecDepth 20000 in
set_option maxHeartbeats 4000000 in
theorem ref_any (s : List UInt8) (hs : s.length ≤ 1000000) (w : World) (E : Nat → Addr) (he : Errs w E) : Calls Tryz.prog 158 #[.string (bs s)] w (RefG E (refF s) w) := by
  have HFY := Lib.hid (fun w => xfail_y w)
  have HFN := Lib.hid (xfail_n w E he)
  have HNM := Lib.hid (named_any s w)
  obtain ⟨O, ho⟩ : ∃ O, refF s = O := ⟨_, rfl⟩
  rw [ho]
  unfold refF at ho
  cases hnm : namedF s with
  | some t =>
    rw [hnm] at HNM ho
    obtain rfl : O = some t := ho.symm
    clear hnm he ho
    go_enter Tryz.func158, Tryz.ntmps158
    go_wp2_with (go_at_call 174; refine HNM.out.mono ?_; rintro e w1 ⟨rfl, rfl⟩)
    go_ret
    exact ⟨rfl, rfl⟩
  | none =>
    rw [hnm] at HNM ho
    dsimp only at ho
    clear hnm he
    by_cases hp : ∃ u, s = 35 :: u
    rotate_left 1
    · have HC := Lib.hid (cutP_n 35 s (fun u e => hp ⟨u, e⟩) w)
      have HO := Lib.hid (show O = none by
        rw [← ho]
        cases s with
        | nil => rfl
        | cons c u =>
          by_cases hc : c = 35
          · exact absurd ⟨u, by rw [hc]⟩ hp
          · split
            · rename_i e; injection e with e _; exact absurd e hc
            · rename_i e; injection e with e _; exact absurd e hc
            · rfl)
      clear hp ho
      go_enter Tryz.func158, Tryz.ntmps158
      go_wp2_with (first | (go_at_call 174; refine HNM.out.mono ?_; rintro e w1 ⟨rfl, rfl⟩) | (go_at_call 132; refine HC.out.mono ?_; rintro e w2 ⟨rfl, rfl⟩) | (go_at_call 67; refine HFN.out.mono ?_; rintro e w3 ⟨rfl, rfl⟩))
      exact ⟨rfl, rfl, by rw [HO.out]⟩
    obtain ⟨u, rfl⟩ := hp
    have HC := Lib.hid (cutP_y 35 u w)
    by_cases hx : ∃ t, u = 120 :: t
    · obtain ⟨t, rfl⟩ := hx
      have HC2 := Lib.hid (cutP_y 120 t w)
      have ho : numR 16 t = O := ho
      have HO := Lib.hid ho
      clear ho
      by_cases h0 : t = []
      · have hi : (bs t).toList.isEmpty = true := by rw [bs_toList, h0]; rfl
        have hi2 : t.isEmpty = true := by rw [h0]; rfl
        have HO2 := Lib.hid (show O = none by rw [← HO.out]; unfold numR; rw [if_pos (.inl h0)])
        clear h0 HO
        go_enter Tryz.func158, Tryz.ntmps158
        go_wp2_with (first | (go_at_call 174; refine HNM.out.mono ?_; rintro e w1 ⟨rfl, rfl⟩) | (go_at_call 132; refine HC.out.mono ?_; clear HC; rintro e w2 ⟨rfl, rfl⟩) | (go_at_call 132; refine HC2.out.mono ?_; rintro e w3 ⟨rfl, rfl⟩) | (go_at_call 67; refine (HFY.out _).mono ?_; rintro e w4 ⟨rfl, rfl⟩) | (go_at_call 67; refine HFN.out.mono ?_; rintro e w5 ⟨rfl, rfl⟩))
        exact ⟨rfl, rfl, by rw [HO2.out]⟩
      have hi : (bs t).toList.isEmpty = false := by
        rw [bs_toList]
        cases t with
        | nil => exact absurd rfl h0
        | cons c t => rfl
      have hi2 : t.isEmpty = false := by rw [← hi, bs_toList]
      have hz := bs_size t
      by_cases h8 : t.length ≤ 8
      rotate_left 1
      · have g8 : decide ((t.length : Int) ≤ 8) = false := decide_eq_false (by omega)
        have HO2 := Lib.hid (show O = none by rw [← HO.out]; unfold numR; rw [if_pos (.inr (by omega))])
        clear h0 HO h8
        go_enter Tryz.func158, Tryz.ntmps158
        go_wp2_with (first | (go_at_call 174; refine HNM.out.mono ?_; rintro e w1 ⟨rfl, rfl⟩) | (go_at_call 132; refine HC.out.mono ?_; clear HC; rintro e w2 ⟨rfl, rfl⟩) | (go_at_call 132; refine HC2.out.mono ?_; rintro e w3 ⟨rfl, rfl⟩) | (go_at_call 67; refine (HFY.out _).mono ?_; rintro e w4 ⟨rfl, rfl⟩) | (go_at_call 67; refine HFN.out.mono ?_; rintro e w5 ⟨rfl, rfl⟩))
        exact ⟨rfl, rfl, by rw [HO2.out]⟩
      have g8 : decide ((t.length : Int) ≤ 8) = true := decide_eq_true (by omega)
      have HO2 := Lib.hid (show ((numGo 16 0 t).bind fun n => if mayB n = true then some (Lib.encodeRune (n : Int)) else none) = O by rw [← HO.out]; unfold numR; rw [if_neg (by intro h; rcases h with h | h; exact h0 h; omega)])
      clear HO h0
      go_enter Tryz.func158, Tryz.ntmps158
      go_wp2_with (first | (go_at_call 174; refine HNM.out.mono ?_; rintro e w1 ⟨rfl, rfl⟩) | (go_at_call 132; refine HC.out.mono ?_; clear HC; rintro e w2 ⟨rfl, rfl⟩) | (go_at_call 132; refine HC2.out.mono ?_; rintro e w3 ⟨rfl, rfl⟩) | (go_at_call 67; refine (HFY.out _).mono ?_; rintro e w4 ⟨rfl, rfl⟩) | (go_at_call 67; refine HFN.out.mono ?_; rintro e w5 ⟨rfl, rfl⟩))
      clear hi hi2 g8
      obtain ⟨wo, rfl⟩ : ∃ wo, wo = w4 := ⟨_, rfl⟩
      go_loopw [44, 10] (fun i v wr => ∃ k n : Nat, k ≤ t.length ∧ i = .int .i64 k ∧ v = .int .i64 n ∧ n < 16 ^ k ∧ ((numGo 16 n (t.drop k)).bind fun n => if mayB n = true then some (Lib.encodeRune (n : Int)) else none) = O ∧ wr = wo) (fun i _ _ => t.length - (intOf i).toNat)
      case atStart => exact ⟨0, 0, by omega, rfl, rfl, by decide, HO2.out, rfl⟩
      case round =>
        obtain ⟨k, n, hk, rfl, rfl, hn, ho, rfl⟩ := hrel
        have hn32 : n < 4294967296 := by
          have : 16 ^ k ≤ 16 ^ 8 := Nat.pow_le_pow_right (by omega) (by omega)
          have e : (16 : Nat) ^ 8 = 4294967296 := by decide
          omega
        by_cases hlt : k < t.length
        · rw [List.drop_eq_getElem_cons hlt] at ho
          have hki : (k : Int) < ((bs t).size : Int) := by rw [hz]; omega
          have hlk : (bs t)[k]'(by rw [hz]; exact hlt) = t[k] := rfl
          have HL := Lib.hid (lower_any t[k] wr)
          have HI := Lib.hid (idx_dig (lowF t[k]) wr)
          unfold numGo at ho
          cases hd : digF (lowF t[k]) with
          | none =>
            rw [hd] at HI ho
            have HO3 := Lib.hid (show O = none from ho.symm)
            clear hd ho hn
            go_wp2_with (first | (go_at_call 176; refine HL.out.mono ?_; rintro e w1 ⟨rfl, rfl⟩) | (go_at_call 175; refine HI.out.mono ?_; rintro e w2 ⟨rfl, rfl⟩) | (go_at_call 67; refine HFN.out.mono ?_; rintro e w3 ⟨rfl, rfl⟩))
            exact ⟨rfl, rfl, by rw [HO3.out]⟩
          | some dg =>
            rw [hd] at HI ho
            dsimp only at HI ho
            have hd16 := dig_lt hd
            have hge : decide ((0 : Int) ≤ (dg : Int)) = true := decide_eq_true (by omega)
            clear hd
            by_cases hdb : dg < 16
            · rw [if_pos hdb] at ho
              have hdb' : decide ((dg : Int) < 16) = true := decide_eq_true (by omega)
              have HO3 := Lib.hid ho
              have HN3 := Lib.hid (show n * 16 + dg < 16 ^ (k + 1) by rw [Nat.pow_succ]; omega)
              clear ho hn
              go_wp2_with (first | (go_at_call 176; refine HL.out.mono ?_; rintro e w1 ⟨rfl, rfl⟩) | (go_at_call 175; refine HI.out.mono ?_; rintro e w2 ⟨rfl, rfl⟩) | (go_at_call 67; refine (HFY.out _).mono ?_; rintro e w3 ⟨rfl, rfl⟩))
              go_roundw
              case rel => exact ⟨k + 1, n * 16 + dg, by omega, by go_num, by go_num, HN3.out, HO3.out, trivial⟩
              case measure => simp [intOf]; omega
            · rw [if_neg hdb] at ho
              have hdb' : decide ((dg : Int) < 16) = false := decide_eq_false (by omega)
              have HO3 := Lib.hid (show O = none from ho.symm)
              clear ho hn
              go_wp2_with (first | (go_at_call 176; refine HL.out.mono ?_; rintro e w1 ⟨rfl, rfl⟩) | (go_at_call 175; refine HI.out.mono ?_; rintro e w2 ⟨rfl, rfl⟩) | (go_at_call 67; refine HFN.out.mono ?_; rintro e w3 ⟨rfl, rfl⟩))
              exact ⟨rfl, rfl, by rw [HO3.out]⟩
        · obtain rfl : k = t.length := by omega
          rw [List.drop_of_length_le (Nat.le_refl _)] at ho
          unfold numGo at ho
          rw [Option.bind_some] at ho
          have HM := Lib.hid (may_i32 n hn32 wr)
          cases hm : mayB n
          · rw [hm] at HM ho
            have HO3 := Lib.hid (show O = none from ho.symm)
            clear hm ho hn
            go_wp2_with (first | (go_at_call 56; refine HM.out.mono ?_; rintro e w1 ⟨rfl, rfl⟩) | (go_at_call 67; refine HFN.out.mono ?_; rintro e w3 ⟨rfl, rfl⟩))
            exact ⟨rfl, rfl, by rw [HO3.out]⟩
          · rw [hm] at HM ho
            have HO3 := Lib.hid (show O = some _ from ho.symm)
            have hni : wrap32 (n : Int) = (n : Int) := by
              have := mayB_I n
              rw [hm] at this
              have hle : n ≤ 1114111 := by
                split at this
                · omega
                · split at this
                  · cases this
                  · have := this.symm
                    simp only [Bool.or_eq_true, Bool.and_eq_true, decide_eq_true_eq] at this
                    omega
              unfold wrap32
              omega
            rw [hni] at HM
            have hen := enc_bs hm
            clear hm ho hn
            go_wp2_with (first | (go_at_call 56; refine HM.out.mono ?_; rintro e w1 ⟨rfl, rfl⟩) | (go_at_call 67; refine (HFY.out _).mono ?_; rintro e w3 ⟨rfl, rfl⟩))
            go_ret
            exact ⟨rfl, by rw [HO3.out] <;> rfl⟩
    · have HC2 := Lib.hid (cutP_n 120 u (fun t e => hx ⟨t, e⟩) w)
      have ho : numR 10 u = O := by
        rw [← ho]
        split
        · rename_i e
          injection e with _ e
          exact absurd ⟨_, e⟩ hx
        · rename_i e
          injection e with _ e
          rw [e]
        · rename_i h1 h2
          exact absurd rfl (h2 u)
      obtain ⟨t, rfl⟩ : ∃ t, t = u := ⟨_, rfl⟩
      have HO := Lib.hid ho
      clear ho
      by_cases h0 : t = []
      · have hi : (bs t).toList.isEmpty = true := by rw [bs_toList, h0]; rfl
        have hi2 : t.isEmpty = true := by rw [h0]; rfl
        have HO2 := Lib.hid (show O = none by rw [← HO.out]; unfold numR; rw [if_pos (.inl h0)])
        clear h0 HO
        go_enter Tryz.func158, Tryz.ntmps158
        go_wp2_with (first | (go_at_call 174; refine HNM.out.mono ?_; rintro e w1 ⟨rfl, rfl⟩) | (go_at_call 132; refine HC.out.mono ?_; clear HC; rintro e w2 ⟨rfl, rfl⟩) | (go_at_call 132; refine HC2.out.mono ?_; rintro e w3 ⟨rfl, rfl⟩) | (go_at_call 67; refine (HFY.out _).mono ?_; rintro e w4 ⟨rfl, rfl⟩) | (go_at_call 67; refine HFN.out.mono ?_; rintro e w5 ⟨rfl, rfl⟩))
        exact ⟨rfl, rfl, by rw [HO2.out]⟩
      have hi : (bs t).toList.isEmpty = false := by
        rw [bs_toList]
        cases t with
        | nil => exact absurd rfl h0
        | cons c t => rfl
      have hi2 : t.isEmpty = false := by rw [← hi, bs_toList]
      have hz := bs_size t
      by_cases h8 : t.length ≤ 8
      rotate_left 1
      · have g8 : decide ((t.length : Int) ≤ 8) = false := decide_eq_false (by omega)
        have HO2 := Lib.hid (show O = none by rw [← HO.out]; unfold numR; rw [if_pos (.inr (by omega))])
        clear h0 HO h8
        go_enter Tryz.func158, Tryz.ntmps158
        go_wp2_with (first | (go_at_call 174; refine HNM.out.mono ?_; rintro e w1 ⟨rfl, rfl⟩) | (go_at_call 132; refine HC.out.mono ?_; clear HC; rintro e w2 ⟨rfl, rfl⟩) | (go_at_call 132; refine HC2.out.mono ?_; rintro e w3 ⟨rfl, rfl⟩) | (go_at_call 67; refine (HFY.out _).mono ?_; rintro e w4 ⟨rfl, rfl⟩) | (go_at_call 67; refine HFN.out.mono ?_; rintro e w5 ⟨rfl, rfl⟩))
        exact ⟨rfl, rfl, by rw [HO2.out]⟩
      have g8 : decide ((t.length : Int) ≤ 8) = true := decide_eq_true (by omega)
      have HO2 := Lib.hid (show ((numGo 10 0 t).bind fun n => if mayB n = true then some (Lib.encodeRune (n : Int)) else none) = O by rw [← HO.out]; unfold numR; rw [if_neg (by intro h; rcases h with h | h; exact h0 h; omega)])
      clear HO h0
      go_enter Tryz.func158, Tryz.ntmps158
      go_wp2_with (first | (go_at_call 174; refine HNM.out.mono ?_; rintro e w1 ⟨rfl, rfl⟩) | (go_at_call 132; refine HC.out.mono ?_; clear HC; rintro e w2 ⟨rfl, rfl⟩) | (go_at_call 132; refine HC2.out.mono ?_; rintro e w3 ⟨rfl, rfl⟩) | (go_at_call 67; refine (HFY.out _).mono ?_; rintro e w4 ⟨rfl, rfl⟩) | (go_at_call 67; refine HFN.out.mono ?_; rintro e w5 ⟨rfl, rfl⟩))
      clear hi hi2 g8
      obtain ⟨wo, rfl⟩ : ∃ wo, wo = w4 := ⟨_, rfl⟩
      go_loopw [44, 10] (fun i v wr => ∃ k n : Nat, k ≤ t.length ∧ i = .int .i64 k ∧ v = .int .i64 n ∧ n < 16 ^ k ∧ ((numGo 10 n (t.drop k)).bind fun n => if mayB n = true then some (Lib.encodeRune (n : Int)) else none) = O ∧ wr = wo) (fun i _ _ => t.length - (intOf i).toNat)
      case atStart => exact ⟨0, 0, by omega, rfl, rfl, by decide, HO2.out, rfl⟩
      case round =>
        obtain ⟨k, n, hk, rfl, rfl, hn, ho, rfl⟩ := hrel
        have hn32 : n < 4294967296 := by
          have : 16 ^ k ≤ 16 ^ 8 := Nat.pow_le_pow_right (by omega) (by omega)
          have e : (16 : Nat) ^ 8 = 4294967296 := by decide
          omega
        by_cases hlt : k < t.length
        · rw [List.drop_eq_getElem_cons hlt] at ho
          have hki : (k : Int) < ((bs t).size : Int) := by rw [hz]; omega
          have hlk : (bs t)[k]'(by rw [hz]; exact hlt) = t[k] := rfl
          have HL := Lib.hid (lower_any t[k] wr)
          have HI := Lib.hid (idx_dig (lowF t[k]) wr)
          unfold numGo at ho
          cases hd : digF (lowF t[k]) with
          | none =>
            rw [hd] at HI ho
            have HO3 := Lib.hid (show O = none from ho.symm)
            clear hd ho hn
            go_wp2_with (first | (go_at_call 176; refine HL.out.mono ?_; rintro e w1 ⟨rfl, rfl⟩) | (go_at_call 175; refine HI.out.mono ?_; rintro e w2 ⟨rfl, rfl⟩) | (go_at_call 67; refine HFN.out.mono ?_; rintro e w3 ⟨rfl, rfl⟩))
            exact ⟨rfl, rfl, by rw [HO3.out]⟩
          | some dg =>
            rw [hd] at HI ho
            dsimp only at HI ho
            have hd16 := dig_lt hd
            have hge : decide ((0 : Int) ≤ (dg : Int)) = true := decide_eq_true (by omega)
            clear hd
            by_cases hdb : dg < 10
            · rw [if_pos hdb] at ho
              have hdb' : decide ((dg : Int) < 10) = true := decide_eq_true (by omega)
              have HO3 := Lib.hid ho
              have HN3 := Lib.hid (show n * 10 + dg < 16 ^ (k + 1) by rw [Nat.pow_succ]; omega)
              clear ho hn
              go_wp2_with (first | (go_at_call 176; refine HL.out.mono ?_; rintro e w1 ⟨rfl, rfl⟩) | (go_at_call 175; refine HI.out.mono ?_; rintro e w2 ⟨rfl, rfl⟩) | (go_at_call 67; refine (HFY.out _).mono ?_; rintro e w3 ⟨rfl, rfl⟩))
              go_roundw
              case rel => exact ⟨k + 1, n * 10 + dg, by omega, by go_num, by go_num, HN3.out, HO3.out, trivial⟩
              case measure => simp [intOf]; omega
            · rw [if_neg hdb] at ho
              have hdb' : decide ((dg : Int) < 10) = false := decide_eq_false (by omega)
              have HO3 := Lib.hid (show O = none from ho.symm)
              clear ho hn
              go_wp2_with (first | (go_at_call 176; refine HL.out.mono ?_; rintro e w1 ⟨rfl, rfl⟩) | (go_at_call 175; refine HI.out.mono ?_; rintro e w2 ⟨rfl, rfl⟩) | (go_at_call 67; refine HFN.out.mono ?_; rintro e w3 ⟨rfl, rfl⟩))
              exact ⟨rfl, rfl, by rw [HO3.out]⟩
        · obtain rfl : k = t.length := by omega
          rw [List.drop_of_length_le (Nat.le_refl _)] at ho
          unfold numGo at ho
          rw [Option.bind_some] at ho
          have HM := Lib.hid (may_i32 n hn32 wr)
          cases hm : mayB n
          · rw [hm] at HM ho
            have HO3 := Lib.hid (show O = none from ho.symm)
            clear hm ho hn
            go_wp2_with (first | (go_at_call 56; refine HM.out.mono ?_; rintro e w1 ⟨rfl, rfl⟩) | (go_at_call 67; refine HFN.out.mono ?_; rintro e w3 ⟨rfl, rfl⟩))
            exact ⟨rfl, rfl, by rw [HO3.out]⟩
          · rw [hm] at HM ho
            have HO3 := Lib.hid (show O = some _ from ho.symm)
            have hni : wrap32 (n : Int) = (n : Int) := by
              have := mayB_I n
              rw [hm] at this
              have hle : n ≤ 1114111 := by
                split at this
                · omega
                · split at this
                  · cases this
                  · have := this.symm
                    simp only [Bool.or_eq_true, Bool.and_eq_true, decide_eq_true_eq] at this
                    omega
              unfold wrap32
              omega
            rw [hni] at HM
            have hen := enc_bs hm
            clear hm ho hn
            go_wp2_with (first | (go_at_call 56; refine HM.out.mono ?_; rintro e w1 ⟨rfl, rfl⟩) | (go_at_call 67; refine (HFY.out _).mono ?_; rintro e w3 ⟨rfl, rfl⟩))
            go_ret
            exact ⟨rfl, by rw [HO3.out] <;> rfl⟩
end Go.Proofs.YtkghpmpmcafhkaaGreatDoor
