/-
  XmlRA: package xml's reader: fail, cut, blank, lower, named.
  XmlRB: strings.IndexAny at two ASCII bytes, whatever the text: the program's walk.
  XmlRC: strings.IndexAny at two ASCII bytes; package xml's reader: upTo.
  XmlRD: package xml's reader: upTo, name.
-/
import Derived.Test.YtkghpmpmcafhkaaGreatDoorPF
import Derived.Test.YtkghpmpmcafhkaaGreatDoorPA
import Derived.Shelf.Strings.SlTrimAscii
import Derived.Test.YtkghpmpmcafhkaaGreatDoorPC
import Derived.Laws.Runes
import Derived.WalkMore
namespace Go.Proofs.YtkghpmpmcafhkaaGreatDoor
open Go.RowKit
attribute [local go_sem] bs_toList

theorem run_str_from {P : Program} {t : TypeId} (ht : P.underlying t = some .string) (l : List UInt8) (k : Nat) (hk : k ≤ l.length) (w : World) :
    (Instr.slice t (.string (bs l)) (some (.int .i64 (k : Int))) none none).run P w = .ok (.string (bs (l.drop k))) w := by
  have h1 : (0 : Int) ≤ (k : Int) ∧ (k : Int) ≤ (l.length : Int) := by omega
  have h2 := bs_extract l k l.length
  rw [List.take_of_length_le (by rw [List.length_drop]; exact Nat.le_refl _)] at h2
  simp [Instr.slice, run_underlying ht, Instr.sliceBounds, run_sliceBound, bs_size, h2, hk]
/-- a reader: the bytes that are left, and how deep it stands -/
abbrev Rr (w : World) (r : Nat) (s : List UInt8) (d : Int) : Prop := Blk w r 133 #[.string (bs s), .int .i64 d]
theorem Rr.set0 {w : World} {r : Nat} {s : List UInt8} {d : Int} (h : Rr w r s d) (t : List UInt8) : Rr (w.setCell ⟨r, 0, none⟩ (.string (bs t))) r t d := h.set_ 0 _
theorem xfail_y (w : World) : Calls Tryz.prog 67 #[.bool true] w (fun e w' => e = .returned (.tuple #[]) ∧ w' = w) := by
  go_enter Tryz.func67, Tryz.ntmps67
  go_wp2_with fail
  go_end0
  exact ⟨rfl, rfl⟩
theorem xfail_n (w : World) (E : Nat → Addr) (he : Errs w E) : Calls Tryz.prog 67 #[.bool false] w (fun e w' => e = .panicked (panE E 3) ∧ w' = w) := by
  have cE := he.form
  unfold panE errAt
  go_enter Tryz.func67, Tryz.ntmps67
  go_wp2_with fail
  exact ⟨rfl, rfl, rfl⟩
/-! ### cut -/
theorem cutR_has : ∀ (t s : List UInt8), cutR t s = if Lib.hasPrefix s t = true then some (s.drop t.length) else none
  | [], s => by
    unfold Lib.hasPrefix
    rfl
  | c :: t, [] => rfl
  | c :: t, x :: s => by
    have ih := cutR_has t s
    unfold cutR
    unfold Lib.hasPrefix at ih ⊢
    rw [List.isPrefixOf_cons_cons]
    by_cases h : x = c
    · subst h
      rw [if_pos rfl, ih]
      simp
    · have h' : (c == x) = false := by rw [beq_eq_false_iff_ne]; exact fun e => h e.symm
      rw [if_neg h, h', Bool.false_and]
      rfl
theorem bs_arr (l : List UInt8) : (⟨l.toArray⟩ : ByteArray) = bs l := rfl
theorem rcut_y {r : Nat} {s t s' : List UInt8} {d : Int} (w : World) (hr : Rr w r s d) (hc : cutR t s = some s') :
    Calls Tryz.prog 103 #[.pointer (some ⟨r, 0, none⟩), .string (bs t)] w fun e w' => e = .returned (.tuple #[]) ∧ Rr w' r s' d ∧ Only r w w' := by
  have HC := Lib.hid (Tryz.strings_CutPrefix (bs s) (bs t) w)
  rw [cutR_has] at hc
  split at hc
  rotate_left 1
  · cases hc
  rename_i hp
  cases hc
  have h1 : (bs s).data.toList = s := by simp [bs]
  have h2 : (bs t).data.toList = t := by simp [bs]
  have h3 : Lib.trimPrefix s t = s.drop t.length := by unfold Lib.trimPrefix; rw [if_pos hp]
  rw [h1, h2, hp, h3, bs_arr] at HC
  have HF := Lib.hid (xfail_y w)
  have c0 := (hr.cell 0).trans rfl
  have f0 := hr.frozen 0
  have HR := Lib.hid (Rr.set0 hr (s.drop t.length))
  have HO := Lib.hid ((Only.refl r w).set_ 0 (.string (bs (s.drop t.length))))
  clear hp h1 h2 h3 hr
  go_enter Tryz.func103, Tryz.ntmps103
  go_wp2_with (first | (go_at_call 132; refine HC.out.mono ?_; rintro e w1 ⟨rfl, rfl⟩) | (go_at_call 67; refine HF.out.mono ?_; rintro e w1 ⟨rfl, rfl⟩))
  go_end0
  exact ⟨rfl, HR.out, HO.out⟩
theorem rcut_n {r : Nat} {s t : List UInt8} {d : Int} (w : World) (E : Nat → Addr) (he : Errs w E) (hr : Rr w r s d) (hc : cutR t s = none) :
    Calls Tryz.prog 103 #[.pointer (some ⟨r, 0, none⟩), .string (bs t)] w fun e w' => e = .panicked (panE E 3) ∧ w' = w := by
  have HC := Lib.hid (Tryz.strings_CutPrefix (bs s) (bs t) w)
  rw [cutR_has] at hc
  split at hc
  · cases hc
  rename_i hp
  have h1 : (bs s).data.toList = s := by simp [bs]
  have h2 : (bs t).data.toList = t := by simp [bs]
  rw [h1, h2, Bool.eq_false_iff.2 hp] at HC
  have HF := Lib.hid (xfail_n w E he)
  have c0 := (hr.cell 0).trans rfl
  clear hp h1 h2 hr hc he
  go_enter Tryz.func103, Tryz.ntmps103
  go_wp2_with (first | (go_at_call 132; refine HC.out.mono ?_; rintro e w1 ⟨rfl, rfl⟩) | (go_at_call 67; refine HF.out.mono ?_; rintro e w1 ⟨rfl, rfl⟩))
  exact ⟨rfl, rfl, rfl⟩
/-! ### blank -/
theorem blank_set (s : List UInt8) : Lib.trimLeftS s [32, 9, 10, 13] = blankR s := by
  unfold Lib.trimLeftS blankR
  congr 1
  funext c
  unfold isBl
  simp only [List.contains_cons, List.contains_nil, Bool.or_false, Bool.or_assoc]
theorem blank_len (s : List UInt8) : (blankR s).length ≤ s.length := by
  unfold blankR
  exact (List.dropWhile_sublist _).length_le
theorem rblank_any {r : Nat} {s : List UInt8} {d : Int} (w : World) (hr : Rr w r s d) (hs : s.length ≤ 1000000) :
    Calls Tryz.prog 109 #[.pointer (some ⟨r, 0, none⟩)] w fun e w' => e = .returned (.int .i64 ((s.length - (blankR s).length : Nat) : Int)) ∧ Rr w' r (blankR s) d ∧ But [r] w w' := by
  have HT := Lib.hid (Any.strings_TrimLeft_laid Tryz.lays161 (by kernel_rfl) (bs s) ⟨#[32, 9, 10, 13]⟩ w (by decide) (ascii_of_all (by decide)))
  have h1 : (bs s).data.toList = s := by simp [bs]
  rw [h1, show (⟨#[32, 9, 10, 13]⟩ : ByteArray).data.toList = [32, 9, 10, 13] from rfl, blank_set, bs_arr] at HT
  have hl := blank_len s
  have c0 := (hr.cell 0).trans rfl
  have HR := Lib.hid hr
  generalize blankR s = t at *
  have hz1 := bs_size s
  have hz2 := bs_size t
  clear h1 hr
  go_enter Tryz.func109, Tryz.ntmps109
  go_wp2_with fail
  refine HT.out.mono ?_
  rintro e w1 ⟨rfl, hb⟩
  have hr1 := HR.out.below hb HR.out.lt
  have c1 := (hr1.cell 0).trans rfl
  have f1 := hr1.frozen 0
  have HR1 := Lib.hid (Rr.set0 hr1 t)
  have c2 := (HR1.out.cell 0).trans rfl
  have HB := Lib.hid ((But.of_below (S := [r]) hb).set_ r 0 (.string (bs t)) (by simp))
  clear hb hr1 c0 HT
  go_wp2_with fail
  go_ret
  exact ⟨by rw [show ((s.length - t.length : Nat) : Int) = (s.length : Int) - (t.length : Int) by omega] <;> rfl, HR1.out, HB.out⟩
/-! ### signs -/
theorem lower_any (c : UInt8) (w : World) : Calls Tryz.prog 176 #[.int .u8 c.toNat] w fun e w' => e = .returned (.int .u8 (lowF c).toNat) ∧ w' = w := by
  have hc : c.toNat < 256 := c.toNat_lt
  unfold lowF
  by_cases h1 : 65 ≤ c.toNat
  · by_cases h2 : c.toNat ≤ 70
    · have g1 : decide ((65 : Int) ≤ (c.toNat : Int)) = true := decide_eq_true (by omega)
      have g2 : decide ((c.toNat : Int) ≤ 70) = true := decide_eq_true (by omega)
      have hX : RowKit.Hid ((if 65 ≤ c.toNat ∧ c.toNat ≤ 70 then UInt8.ofNat (c.toNat + 32) else c).toNat = c.toNat + 32) := Lib.hid (by rw [if_pos ⟨h1, h2⟩]; simp; omega)
      rw [hX.out]
      clear hX
      go_enter Tryz.func176, Tryz.ntmps176
      go_wp2_with fail
      go_ret
      refine ⟨?_, rfl⟩
      simp []
      omega
    · have g1 : decide ((65 : Int) ≤ (c.toNat : Int)) = true := decide_eq_true (by omega)
      have g2 : decide ((c.toNat : Int) ≤ 70) = false := decide_eq_false (by omega)
      rw [if_neg (fun h => h2 h.2)]
      go_enter Tryz.func176, Tryz.ntmps176
      go_wp2_with fail
      go_ret
      exact ⟨rfl, rfl⟩
  · have g1 : decide ((65 : Int) ≤ (c.toNat : Int)) = false := decide_eq_false (by omega)
    rw [if_neg (fun h => h1 h.1)]
    go_enter Tryz.func176, Tryz.ntmps176
    go_wp2_with fail
    go_ret
    exact ⟨rfl, rfl⟩
theorem named_any (s : List UInt8) (w : World) : Calls Tryz.prog 174 #[.string (bs s)] w fun e w' => e = .returned (.tuple #[.string (bs ((namedF s).getD [])), .bool (namedF s).isSome]) ∧ w' = w := by
  obtain ⟨R, hR⟩ : ∃ R, namedF s = R := ⟨_, rfl⟩
  rw [hR]
  unfold namedF at hR
  by_cases h1 : s = [108, 116]
  · subst h1
    subst hR
    go_enter Tryz.func174, Tryz.ntmps174
    go_wp2_with fail
    go_ret2
    exact ⟨rfl, rfl⟩
  rw [if_neg h1] at hR
  have b1 : (s == [108, 116]) = false := by rw [beq_eq_false_iff_ne]; exact h1
  clear h1
  by_cases h2 : s = [103, 116]
  · subst h2
    subst hR
    go_enter Tryz.func174, Tryz.ntmps174
    go_wp2_with fail
    go_ret2
    exact ⟨rfl, rfl⟩
  rw [if_neg h2] at hR
  have b2 : (s == [103, 116]) = false := by rw [beq_eq_false_iff_ne]; exact h2
  clear h2
  by_cases h3 : s = [97, 109, 112]
  · subst h3
    subst hR
    go_enter Tryz.func174, Tryz.ntmps174
    go_wp2_with fail
    go_ret2
    exact ⟨rfl, rfl⟩
  rw [if_neg h3] at hR
  have b3 : (s == [97, 109, 112]) = false := by rw [beq_eq_false_iff_ne]; exact h3
  clear h3
  by_cases h4 : s = [113, 117, 111, 116]
  · subst h4
    subst hR
    go_enter Tryz.func174, Tryz.ntmps174
    go_wp2_with fail
    go_ret2
    exact ⟨rfl, rfl⟩
  rw [if_neg h4] at hR
  have b4 : (s == [113, 117, 111, 116]) = false := by rw [beq_eq_false_iff_ne]; exact h4
  clear h4
  by_cases h5 : s = [97, 112, 111, 115]
  · subst h5
    subst hR
    go_enter Tryz.func174, Tryz.ntmps174
    go_wp2_with fail
    go_ret2
    exact ⟨rfl, rfl⟩
  rw [if_neg h5] at hR
  have b5 : (s == [97, 112, 111, 115]) = false := by rw [beq_eq_false_iff_ne]; exact h5
  clear h5
  subst hR
  go_enter Tryz.func174, Tryz.ntmps174
  go_wp2_with fail
  go_ret2
  exact ⟨rfl, rfl⟩
end Go.Proofs.YtkghpmpmcafhkaaGreatDoor

namespace Go.Proofs.YtkghpmpmcafhkaaGreatDoor
open Go.RowKit
attribute [local irreducible] wpPhi

set_option maxRecDepth 20000 in
set_option maxHeartbeats 2000000 in
/-- a rune that isn't ASCII is not found among ASCII bytes -/
theorem idxrune_bad (m : UInt8) (hm : m.toNat < 128) (w : World) :
    Calls Tryz.prog 171 #[.string ⟨#[m, 60]⟩, .int .i32 65533] w fun e w' => e = .returned (.int .i64 (-1)) ∧ Below w.heap.size w w' := by
  obtain ⟨s, hs⟩ : ∃ s : ByteArray, s = ⟨#[m, 60]⟩ := ⟨_, rfl⟩
  have hsz : s.size = 2 := by rw [hs]; rfl
  have hb : ∀ i (h : i < s.size), (s[i]'h).toNat < 128 := by
    intro i h
    have hi : i < 2 := by rw [← hsz]; exact h
    have h0 : i = 0 ∨ i = 1 := by omega
    subst hs
    rcases h0 with rfl | rfl
    · exact hm
    · show (60 : UInt8).toNat < 128
      decide
  rw [← hs]
  have HB := Lib.hid hb
  have HZ := Lib.hid hsz
  clear hs hb hsz hm
  go_enter Tryz.func171, Tryz.ntmps171
  go_wp2_with fail
  go_loopw [] (fun wr => ∃ pos : Nat, wr.heap[w.heap.size]? = some (.stringIter s pos) ∧ Below w.heap.size w wr) (fun wr => s.size - wr.iterPos w.heap.size)
  case atStart => exact ⟨0, World.iter_heap w s 0, Lib.hid (Below.refl w.heap.size w) |>.out.alloc (Nat.le_refl _) _⟩
  case round =>
    obtain ⟨pos, hit, hbw⟩ := hrel
    by_cases hp : pos < s.size
    · have hnx : ∀ ty, (Instr.next (.pointer (some ⟨w.heap.size, 0, none⟩)) true ty).run Tryz.prog wr = _ := fun ty => Lib.run_next_any_at wr w.heap.size s pos ty hit hp
      have hdc := decode_ascii s pos hp (HB.out pos hp)
      have hb := HB.out pos hp
      generalize (s[pos]'hp) = b at *
      rw [hdc] at hnx
      have hit2 := Lib.iterAt_heap wr w.heap.size s pos (pos + 1) hit
      have hbw2 := Lib.below_iterAt hbw (k := w.heap.size) (Nat.le_refl _) s (pos + 1)
      have hne : ((b.toNat : Int) == 65533) = false := by rw [beq_eq_false_iff_ne]; omega
      go_wp2_with fail
      go_roundw
      case rel => exact ⟨pos + 1, hit2, hbw2⟩
      case measure =>
        simp only [World.iterPos, hit2, hit]
        omega
    · have hnx : ∀ ty, (Instr.next (.pointer (some ⟨w.heap.size, 0, none⟩)) true ty).run Tryz.prog wr = _ := fun ty => Lib.run_next_end_at wr w.heap.size s pos ty hit hp
      go_wp2_with fail
      go_ret
      exact ⟨rfl, hbw⟩
set_option maxRecDepth 20000 in
set_option maxHeartbeats 2000000 in
theorem idxrune_high (m : UInt8) (hm : m.toNat < 128) (r : Int) (h1 : 128 ≤ r) (w : World) :
    Calls Tryz.prog 171 #[.string ⟨#[m, 60]⟩, .int .i32 r] w fun e w' => e = .returned (.int .i64 (-1)) ∧ Below w.heap.size w w' := by
  by_cases hbad : r = 65533
  · subst hbad
    exact idxrune_bad m hm w
  have g1 : decide ((0 : Int) ≤ r) = true := decide_eq_true (by omega)
  have g2 : decide (r < (128 : Int)) = false := decide_eq_false (by omega)
  have g3 : (r == 65533) = false := by rw [beq_eq_false_iff_ne]; exact hbad
  have HV := Lib.hid (Tryz.utf8_ValidRune r w)
  cases hv : Lib.validRune r <;> rw [hv] at HV
  · clear hv hbad h1 hm
    go_enter Tryz.func171, Tryz.ntmps171
    go_wp2_with (go_at_call 97; refine HV.out.mono ?_; rintro e w1 ⟨rfl, rfl⟩)
    go_ret
    exact ⟨rfl, Below.refl _ _⟩
  have hf := encode_facts r (by rw [validRune_eq]; exact hv) h1
  generalize hR : Utf8.encode r = R at hf
  obtain ⟨hz2, hz4, hl⟩ := hf
  clear hv hbad h1
  by_cases hz : R.size = 2
  · obtain ⟨b, hb, hb2⟩ : ∃ b : UInt8, R[1]'(by omega) = b ∧ 128 ≤ b.toNat := ⟨_, rfl, by have := hl (by omega); simp only [hz] at this; exact this⟩
    have g4 : decide ((1 : Int) < 2) = true := by decide
    have g5 : ((60 : Int) != (b.toNat : Int)) = true := by simp; omega
    have HI := Lib.hid (fun w1 => show Calls Tryz.prog 175 #[.string ⟨#[]⟩, .int .u8 (b.toNat : Int)] w1 (fun e w' => e = .returned (.int .i64 (-1)) ∧ Below w1.heap.size w1 w') from (Tryz.strings_IndexByte (⟨#[]⟩ : ByteArray) (b.toNat : Int) w1).mono fun e w' h => ⟨h.1, by rw [h.2]; exact Below.refl _ _⟩)
    have hsl : ∀ w, (Instr.slice 9 (.string ⟨#[m, 60]⟩) (some (.int .i64 2)) none none).run Tryz.prog w = .ok (.string ⟨#[]⟩) w := fun w => run_str_from Tryz.underlying9 [m, 60] 2 (by simp) w
    have hx : (⟨#[m, 60]⟩ : ByteArray).size = 2 := rfl
    go_enter Tryz.func171, Tryz.ntmps171
    go_wp2_with (go_at_call 97; refine HV.out.mono ?_; rintro e w1 ⟨rfl, rfl⟩)
    go_step3
    go_wp2_with fail
    obtain ⟨w0, rfl⟩ : ∃ w0, w0 = w1 := ⟨_, rfl⟩
    go_loopw [9] (fun u wr => u = .int .i64 1 ∧ wr = w0) (fun _ _ => 0)
    case atStart => exact ⟨rfl, rfl⟩
    case round =>
      obtain ⟨rfl, rfl⟩ := hrel
      go_wp2_with fail
      go_step3
      go_wp2_with fail
      refine wp_phi (fun w' => Below wr.heap.size wr w') [] [] (by kernel_rfl) (by kernel_rfl) ?_ ?_ ((Below.refl _ wr)).drew ?_
      · rintro w1' w2' hIB hb
        exact hIB.trans (hb.mono hIB.size)
      · intro p hp; cases hp
      repeat (first | (refine phi_skipK rfl (fun K hK => ?_); simp only [Act.put, List.setIfInBounds_toArray, List.set_cons_succ, List.set_cons_zero]; (try simp only [List.cons_append]); (try simp only [List.nil_append]); apply hK; clear hK K) | (refine phi_pureK rfl rfl (fun K hK => ?_); apply Exists.intro; constructor; (focus (rintro w' hIB; skip; first | (go_simp; done) | (go_simp; (try go_bits); (try go_simp); rfl) | go_simp)); simp only [Act.put, List.setIfInBounds_toArray, List.set_cons_succ, List.set_cons_zero]; (try simp only [List.cons_append]); (try simp only [List.nil_append]); apply hK; clear hK K))
      refine phi_done ?_
      rintro w2 hb2 _
      refine wpList_nil ?_
      have HB2 := Lib.hid hb2
      clear hb2
      rw [show ((((⟨#[m, 60]⟩ : ByteArray)[1]'(show 1 < 2 by omega)).toNat : Int) != (b.toNat : Int)) = true from g5]
      go_wp2_with fail
      obtain ⟨w5, rfl⟩ : ∃ w5, w5 = w2 := ⟨_, rfl⟩
      refine wp_phi (fun w' => Below w5.heap.size w5 w') [(7, PVal (.int .i64 (-1)))] [] (by kernel_rfl) (by kernel_rfl) ?_ ?_ ((Below.refl _ w5)).drew ?_
      · rintro w1' w2' hIB hb
        exact hIB.trans (hb.mono hIB.size)
      · simp only [List.mem_cons, List.not_mem_nil, or_false, forall_eq]
        exact fun _ _ _ _ h' h => PVal_stays _ _ _ _ h' h
      repeat (first | (refine phi_skipK rfl (fun K hK => ?_); simp only [Act.put, List.setIfInBounds_toArray, List.set_cons_succ, List.set_cons_zero]; (try simp only [List.cons_append]); (try simp only [List.nil_append]); apply hK; clear hK K) | (refine phi_pureK rfl rfl (fun K hK => ?_); apply Exists.intro; constructor; (focus (rintro w' hIB; skip; first | (go_simp; done) | (go_simp; (try go_bits); (try go_simp); rfl) | go_simp)); simp only [Act.put, List.setIfInBounds_toArray, List.set_cons_succ, List.set_cons_zero]; (try simp only [List.cons_append]); (try simp only [List.nil_append]); apply hK; clear hK K))
      refine phi_partK (PVal (.int .i64 (-1))) rfl rfl ⟨_, rfl⟩ ?_ (fun K hK v hv => ?_)
      · rintro w' hIB hf
        unfold gives
        clear hf
        go_simp
        refine (HI.out w').mono ?_
        rintro e w'' ⟨rfl, hb⟩
        exact ⟨_, rfl, rfl, trivial, hb⟩
      obtain rfl : v = _ := hv
      simp only [Act.put, List.setIfInBounds_toArray, List.set_cons_succ, List.set_cons_zero]; (try simp only [List.cons_append]); (try simp only [List.nil_append])
      apply hK
      clear hK K
      repeat (first | (refine phi_skipK rfl (fun K hK => ?_); simp only [Act.put, List.setIfInBounds_toArray, List.set_cons_succ, List.set_cons_zero]; (try simp only [List.cons_append]); (try simp only [List.nil_append]); apply hK; clear hK K) | (refine phi_pureK rfl rfl (fun K hK => ?_); apply Exists.intro; constructor; (focus (rintro w' hIB; skip; first | (go_simp; done) | (go_simp; (try go_bits); (try go_simp); rfl) | go_simp)); simp only [Act.put, List.setIfInBounds_toArray, List.set_cons_succ, List.set_cons_zero]; (try simp only [List.cons_append]); (try simp only [List.nil_append]); apply hK; clear hK K))
      refine phi_done ?_
      rintro w2 hb2 _
      refine wpList_nil ?_
      go_wp2_with fail
      rw [Exit.noGoto_ret]
      go_wp2_with fail
      rw [Exit.noGoto_ret]
      go_wp2_with fail
      go_ret
      exact ⟨rfl, HB2.out.trans (hb2.mono HB2.out.size)⟩
  · have g4 : decide (((R.size : Int) - 1) < 2) = false := decide_eq_false (by omega)
    go_enter Tryz.func171, Tryz.ntmps171
    go_wp2_with (go_at_call 97; refine HV.out.mono ?_; rintro e w1 ⟨rfl, rfl⟩)
    go_step3
    go_wp2_with fail
    obtain ⟨w0, rfl⟩ : ∃ w0, w0 = w1 := ⟨_, rfl⟩
    go_loopw [9] (fun u wr => u = .int .i64 ((R.size : Int) - 1) ∧ wr = w0) (fun _ _ => 0)
    case atStart => exact ⟨rfl, rfl⟩
    case round =>
      obtain ⟨rfl, rfl⟩ := hrel
      go_wp2_with fail
      rw [Exit.noGoto_ret]
      go_wp2_with fail
      go_ret
      exact ⟨rfl, Below.refl _ _⟩
end Go.Proofs.YtkghpmpmcafhkaaGreatDoor

namespace Go.Proofs.YtkghpmpmcafhkaaGreatDoor
open Go.RowKit

theorem enc_high {r : Int} (h : 128 ≤ r) : ∀ b ∈ Lib.encodeRune r, 128 ≤ b.toNat := by
  have hz : ∀ x ∈ Lib.encodeRuneZ r, 128 ≤ x ∧ x < 256 := by
    unfold Lib.encodeRuneZ
    rw [if_neg (by omega)]
    (repeat' split) <;> (intro x hx; simp only [List.mem_cons, List.not_mem_nil, or_false] at hx; rcases hx with rfl | rfl | rfl | rfl <;> omega)
  intro b hb
  obtain ⟨x, hx, rfl⟩ := List.mem_map.1 hb
  have := hz x hx
  simp
  omega
/-- the bytes of a sign that isn't ASCII -/
theorem wide_high {s : ByteArray} {pos : Nat} (h : pos < s.size) (hc : 128 ≤ (s[pos]'h).toNat) : ∀ j, j < (Utf8.decode s pos).2 → ∀ b, s.data.toList[pos + j]? = some b → 128 ≤ b.toNat := by
  intro j hj b hb
  have hd := (decode_high s pos h hc).1
  have he := Lib.encode_decode (s.data.toList.drop pos) (drop_ne h)
  rw [← dec_drop] at he
  by_cases hbad : (Utf8.decode s pos).1 = 65533 ∧ (Utf8.decode s pos).2 = 1
  · have hj0 : j = 0 := by omega
    subst hj0
    rw [Nat.add_zero, Lib.data_getElem? s pos h] at hb
    cases hb
    exact hc
  · have h2 := he hbad
    have h3 : b ∈ (s.data.toList.drop pos).take (Utf8.decode s pos).2 := by
      refine List.mem_of_getElem? (i := j) ?_
      rw [List.getElem?_take, if_pos hj, List.getElem?_drop]
      exact hb
    rw [← h2] at h3
    exact enc_high (by omega) b h3
theorem set_info : (Tryz.prog.info? 226).map (fun i => (i.zero, i.size)) = some (some (.agg (Array.replicate 256 (.bool false))), 256) := by kernel_rfl
set_option maxRecDepth 100000 in
set_option maxHeartbeats 2000000 in
theorem idxany_two (m : UInt8) (hm : m.toNat < 128) (l : List UInt8) (hl : l.length ≤ 1000000) (w : World) :
    Calls Tryz.prog 157 #[.string (bs l), .string ⟨#[m, 60]⟩] w (Gives w (.int .i64 (Lib.indexAny l [m, 60]))) := by
  have hsl : (bs l).data.toList = l := by simp [bs]
  have hsz := bs_size l
  by_cases h8 : 8 < l.length
  · have h := Tryz.strings_IndexAny_long (zero_of_info set_info).1 (bs l) ⟨#[m, 60]⟩ w (show 2 ≤ 2 by omega) (by rw [hsz]; exact h8) (by rw [hsz]; omega) (show 2 < 4294967281 by omega) (fun j b hb => by
      match j, hb with
      | 0, hb => cases hb; exact hm
      | 1, hb => cases hb; decide)
    rw [hsl] at h
    refine h.mono ?_
    rintro e w' ⟨rfl, rfl⟩
    exact ⟨rfl, below_alloc (below_alloc1 w _) _⟩
  obtain ⟨S, hS⟩ : ∃ S, bs l = S := ⟨_, rfl⟩
  rw [hS] at hsl hsz ⊢
  obtain ⟨R, hR⟩ : ∃ R, Lib.indexAny l [m, 60] = R := ⟨_, rfl⟩
  rw [hR]
  rw [← hsl] at hR
  have h8z : decide ((8 : Int) < (S.size : Int)) = false := decide_eq_false (by omega)
  have HR := Lib.hid hR
  have HZ := Lib.hid (Tryz.strings_shouldUseASCIISet (S.size : Int) w)
  rw [h8z] at HZ
  have hcs : (⟨#[m, 60]⟩ : ByteArray).size = 2 := rfl
  clear hR hS hsl hsz hl h8 h8z
  go_enter Tryz.func157, Tryz.ntmps157
  go_wp2_with (go_at_call 172; refine HZ.out.mono ?_; rintro e w1 ⟨rfl, rfl⟩)
  obtain ⟨w0, rfl⟩ : ∃ w0, w0 = w1 := ⟨_, rfl⟩
  go_loopw [] (fun wr => ∃ pos : Nat, wr.heap[w0.heap.size]? = some (.stringIter S pos) ∧ Below w0.heap.size w0 wr ∧ Lib.NoAny S.data.toList [m, 60] pos) (fun wr => S.size - wr.iterPos w0.heap.size)
  case atStart => exact ⟨0, World.iter_heap w0 S 0, (Lib.hid (Below.refl w0.heap.size w0)).out.alloc (Nat.le_refl _) _, Lib.NoAny.zero _ _⟩
  case round =>
    obtain ⟨pos, hit, hbw, hno⟩ := hrel
    have HNO := Lib.hid hno
    clear hno
    by_cases hp : pos < S.size
    · have hnx : ∀ ty, (Instr.next (.pointer (some ⟨w0.heap.size, 0, none⟩)) true ty).run Tryz.prog wr = _ := fun ty => Lib.run_next_any_at wr w0.heap.size S pos ty hit hp
      have hxl : S.data.toList[pos]? = some (S[pos]'hp) := Lib.data_getElem? S pos hp
      by_cases hc : (S[pos]'hp).toNat < 128
      · have hdc := decode_ascii S pos hp hc
        rw [hdc] at hnx
        generalize (S[pos]'hp) = b at *
        have hit2 := Lib.iterAt_heap wr w0.heap.size S pos (pos + 1) hit
        have hbw2 := Lib.below_iterAt hbw (k := w0.heap.size) (Nat.le_refl _) S (pos + 1)
        have HX := Lib.hid hxl
        have hcon := Lib.contains_iff_indexByte [m, 60] b
        have hback : ((b.toNat : Int)).toNat.toUInt8 = b := by simp
        have HI := Lib.hid (Tryz.strings_IndexRune_ascii ⟨#[m, 60]⟩ (b.toNat : Int) (wr.iterAt w0.heap.size S (pos + 1)) (by omega) (by omega))
        rw [hback] at HI
        clear hxl hdc hback
        cases hin : [m, 60].contains b
        · rw [hin] at hcon
          have hlt : decide ((0 : Int) ≤ Lib.indexByte (⟨#[m, 60]⟩ : ByteArray).data.toList b) = false := hcon.symm
          have HIN := Lib.hid hin
          clear hcon hin
          go_wp2_with (go_at_call 171; refine HI.out.mono ?_; rintro e w2 ⟨rfl, rfl⟩)
          go_roundw
          case rel => exact ⟨pos + 1, hit2, hbw2, HNO.out.succ HX.out HIN.out⟩
          case measure =>
            simp only [World.iterPos, hit2, hit]
            omega
        · rw [hin] at hcon
          have hlt : decide ((0 : Int) ≤ Lib.indexByte (⟨#[m, 60]⟩ : ByteArray).data.toList b) = true := hcon.symm
          have HIN := Lib.hid hin
          clear hcon hin
          go_wp2_with (go_at_call 171; refine HI.out.mono ?_; rintro e w2 ⟨rfl, rfl⟩)
          go_ret
          exact ⟨by rw [← HR.out, Lib.indexAny_hit HNO.out HX.out HIN.out] <;> rfl, hbw2⟩
      · have hwd := width_pos S pos hp
        have hd := decode_high S pos hp (by omega)
        have HWH := Lib.hid (wide_high hp (by omega))
        have hit2 := Lib.iterAt_heap wr w0.heap.size S pos (pos + (Utf8.decode S pos).2) hit
        have hbw2 := Lib.below_iterAt hbw (k := w0.heap.size) (Nat.le_refl _) S (pos + (Utf8.decode S pos).2)
        have hd1 := decode_le S pos
        generalize (Utf8.decode S pos).2 = wd at *
        generalize (Utf8.decode S pos).1 = rn at *
        have HI := Lib.hid (idxrune_high m hm (rn : Int) (by omega) (wr.iterAt w0.heap.size S (pos + wd)))
        clear hxl hc
        go_wp2_with (go_at_call 171; refine HI.out.mono ?_; rintro e w2 ⟨rfl, hb2⟩)
        have hit3 := (hb2.block w0.heap.size (Array.getElem?_eq_some_iff.1 hit2).1).trans hit2
        have hbw3 := hbw2.trans (hb2.mono hbw2.size)
        go_roundw
        case rel =>
          refine ⟨pos + wd, hit3, hbw3, ?_⟩
          intro j b hj hb
          by_cases hjp : j < pos
          · exact HNO.out j b hjp hb
          · have h1 := HWH.out (j - pos) (by omega) b (by rw [show pos + (j - pos) = j by omega]; exact hb)
            simp only [List.contains_cons, List.contains_nil, Bool.or_false, Bool.or_eq_false_iff, beq_eq_false_iff_ne]
            refine ⟨?_, ?_⟩
            · rintro rfl; omega
            · rintro rfl; exact absurd h1 (by decide)
        case measure =>
          simp only [World.iterPos, hit3, hit]
          omega
    · have hnx : ∀ ty, (Instr.next (.pointer (some ⟨w0.heap.size, 0, none⟩)) true ty).run Tryz.prog wr = _ := fun ty => Lib.run_next_end_at wr w0.heap.size S pos ty hit hp
      go_wp2_with fail
      go_ret
      refine ⟨by rw [← HR.out, Lib.indexAny_none fun j b hj hb => HNO.out j b (by rw [← Lib.size_eq] at hj; omega) hb] <;> rfl, hbw⟩
end Go.Proofs.YtkghpmpmcafhkaaGreatDoor

namespace Go.Proofs.YtkghpmpmcafhkaaGreatDoor
open Go.RowKit
attribute [local go_sem] bs_toList

theorem idx_up (p : UInt8 → Bool) (cs : List UInt8) (hp : ∀ c, cs.contains c = p c) : ∀ s : List UInt8, Lib.indexAny s cs = if s.any p = true then ((s.takeWhile fun c => !p c).length : Int) else -1
  | [] => by simp [Lib.indexAny]
  | c :: s => by
    have ih := idx_up p cs hp s
    unfold Lib.indexAny
    rw [hp, ih]
    cases hc : p c
    · by_cases ha : s.any p = true
      · simp [hc, ha]
      · simp [hc, ha]
    · simp [hc]
theorem take_tw (p : UInt8 → Bool) : ∀ s : List UInt8, s.take (s.takeWhile p).length = s.takeWhile p
  | [] => rfl
  | c :: s => by
    rw [List.takeWhile_cons]
    cases p c
    · rfl
    · simp [take_tw p s]
theorem drop_tw (p : UInt8 → Bool) : ∀ s : List UInt8, s.drop (s.takeWhile p).length = s.dropWhile p
  | [] => rfl
  | c :: s => by
    rw [List.takeWhile_cons, List.dropWhile_cons]
    cases p c
    · rfl
    · simp [drop_tw p s]
theorem tw_le (p : UInt8 → Bool) (s : List UInt8) : (s.takeWhile p).length ≤ s.length := (List.takeWhile_sublist _).length_le
set_option maxRecDepth 20000 in
set_option maxHeartbeats 1000000 in
theorem rupto_y {r : Nat} {s a b : List UInt8} {d : Int} (p : UInt8 → Bool) (cs : ByteArray) (w : World) (hr : Rr w r s d)
    (hi : ∀ w, Calls Tryz.prog 157 #[.string (bs s), .string cs] w (Gives w (.int .i64 (if s.any p = true then ((s.takeWhile fun c => !p c).length : Int) else -1)))) (h : upR p s = some (a, b)) :
    Calls Tryz.prog 137 #[.pointer (some ⟨r, 0, none⟩), .string cs] w fun e w' => e = .returned (.string (bs a)) ∧ Rr w' r b d ∧ But [r] w w' := by
  unfold upR at h
  split at h
  rotate_left 1
  · cases h
  rename_i hany
  cases h
  have HI := Lib.hid hi
  rw [if_pos hany] at HI
  have hle := tw_le (fun c => !p c) s
  have ht := take_tw (fun c => !p c) s
  have hd := drop_tw (fun c => !p c) s
  generalize (s.takeWhile fun c => !p c) = A at *
  generalize (s.dropWhile fun c => !p c) = B at *
  have s1 : ∀ w, (Instr.slice 9 (.string (bs s)) none (some (.int .i64 (A.length : Int))) none).run Tryz.prog w = .ok (.string (bs A)) w := fun w => by
    have := run_str_to Tryz.underlying9 s A.length hle w
    rwa [ht] at this
  have s2 : ∀ w, (Instr.slice 9 (.string (bs s)) (some (.int .i64 (A.length : Int))) none none).run Tryz.prog w = .ok (.string (bs B)) w := fun w => by
    have := run_str_from Tryz.underlying9 s A.length hle w
    rwa [hd] at this
  have c0 := (hr.cell 0).trans rfl
  have HR := Lib.hid hr
  have HF := Lib.hid (fun w => xfail_y w)
  have hge : decide ((0 : Int) ≤ (A.length : Int)) = true := decide_eq_true (by omega)
  clear hany hi hr ht hd hle
  go_enter Tryz.func137, Tryz.ntmps137
  go_wp2_with fail
  refine (HI.out w).mono ?_
  rintro e w1 ⟨rfl, hb⟩
  have hr1 := HR.out.below hb HR.out.lt
  have c1 := (hr1.cell 0).trans rfl
  have f1 := hr1.frozen 0
  have HR1 := Lib.hid (Rr.set0 hr1 B)
  have HB := Lib.hid ((But.of_below (S := [r]) hb).set_ r 0 (.string (bs B)) (by simp))
  clear hb hr1 c0
  go_wp2_with (go_at_call 67; refine (HF.out _).mono ?_; rintro e w2 ⟨rfl, rfl⟩)
  go_ret
  exact ⟨rfl, HR1.out, HB.out⟩
set_option maxRecDepth 20000 in
set_option maxHeartbeats 1000000 in
theorem rupto_n {r : Nat} {s : List UInt8} {d : Int} (p : UInt8 → Bool) (cs : ByteArray) (w : World) (E : Nat → Addr) (he : Errs w E) (hr : Rr w r s d)
    (hi : ∀ w, Calls Tryz.prog 157 #[.string (bs s), .string cs] w (Gives w (.int .i64 (if s.any p = true then ((s.takeWhile fun c => !p c).length : Int) else -1)))) (h : upR p s = none) :
    Calls Tryz.prog 137 #[.pointer (some ⟨r, 0, none⟩), .string cs] w fun e w' => e = .panicked (panE E 3) ∧ Below w.heap.size w w' := by
  unfold upR at h
  split at h
  · cases h
  rename_i hany
  have HI := Lib.hid hi
  rw [if_neg hany] at HI
  have c0 := (hr.cell 0).trans rfl
  have HE := Lib.hid he
  clear hany hi hr he h
  go_enter Tryz.func137, Tryz.ntmps137
  go_wp2_with fail
  refine (HI.out w).mono ?_
  rintro e w1 ⟨rfl, hb⟩
  have HF := Lib.hid (xfail_n w1 E (HE.out.below hb))
  have HB := Lib.hid hb
  clear hb c0
  go_wp2_with (go_at_call 67; refine HF.out.mono ?_; rintro e w2 ⟨rfl, rfl⟩)
  exact ⟨rfl, rfl, HB.out⟩
theorem idx_lt (s : List UInt8) (w : World) : Calls Tryz.prog 157 #[.string (bs s), .string ⟨#[60]⟩] w (Gives w (.int .i64 (if s.any (fun c => c == 60) = true then ((s.takeWhile fun c => !(c == 60)).length : Int) else -1))) := by
  have h := Tryz.strings_IndexAny_one (bs s) ⟨#[60]⟩ w rfl (fun j b hb => by
    match j, hb with
    | 0, hb => cases hb; decide)
  rw [show (bs s).data.toList = s by simp [bs], show (⟨#[60]⟩ : ByteArray).data.toList = [60] from rfl, idx_up (fun c => c == 60) [60] (fun c => by simp only [List.contains_cons, List.contains_nil, Bool.or_false])] at h
  refine h.mono ?_
  rintro e w' ⟨rfl, rfl⟩
  exact ⟨rfl, Below.refl _ _⟩
theorem idx_mark (m : UInt8) (hm : m.toNat < 128) (s : List UInt8) (hs : s.length ≤ 1000000) (w : World) : Calls Tryz.prog 157 #[.string (bs s), .string ⟨#[m, 60]⟩] w (Gives w (.int .i64 (if s.any (fun c => c == m || c == 60) = true then ((s.takeWhile fun c => !(c == m || c == 60)).length : Int) else -1))) := by
  have h := idxany_two m hm s hs w
  rw [idx_up (fun c => c == m || c == 60) [m, 60] (fun c => by simp only [List.contains_cons, List.contains_nil, Bool.or_false])] at h
  exact h
end Go.Proofs.YtkghpmpmcafhkaaGreatDoor
