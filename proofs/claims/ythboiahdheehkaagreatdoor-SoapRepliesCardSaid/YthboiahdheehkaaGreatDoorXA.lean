/- XmlRA -/
import Derived.Test.YthboiahdheehkaaGreatDoorPF
import Derived.Test.YthboiahdheehkaaGreatDoorPA
import Derived.Shelf.Strings.SlTrimAscii
import Derived.Test.YthboiahdheehkaaGreatDoorPC
import Derived.Laws.Runes
import Derived.WalkMore
open List renaming setIfInBounds_toArray → lA, set_cons_succ → lB, set_cons_zero → lC, cons_append → lD, nil_append → lE
open Go.Lib renaming hid → hI
open Exists renaming intro → xI
open Option renaming bind_some → oC
open Bool renaming and_eq_true → bA
open Nat renaming le_refl → nR
open Go.Proofs.Tryz renaming prog → pG
open Go.Value renaming string → V
open Go.Value renaming pointer → N
open Go.Ending renaming returned → T
namespace Go.Proofs.YthboiahdheehkaaGreatDoor
section
set_option maxHeartbeats 4000000
set_option maxRecDepth 100000
open Go.RowKit
attribute [local go_sem] bs_toList
theorem run_str_from {P : Program} {t : TypeId} (ht : P.underlying t = some .string) (l : List UInt8) (k : Nat) (hk : k ≤ l.length) (w : World) :
  (Instr.slice t (V (bs l)) (some (.int .i64 (k : Int))) none none).run P w = .ok (V (bs (l.drop k))) w := by
 have h1 : (0 : Int) ≤ (k : Int) ∧ (k : Int) ≤ (l.length : Int) := by omega
 have h2 := bs_extract l k l.length
 rw [List.take_of_length_le (by rw [List.length_drop]; exact nR _)] at h2
 simp [Instr.slice, run_underlying ht, Instr.sliceBounds, run_sliceBound, bs_size, h2, hk]
abbrev Rr (w : World) (r : Nat) (s : List UInt8) (d : Int) : Prop := Blk w r 148 #[V (bs s), .int .i64 d]
theorem Rr.set0 {w : World} {r : Nat} {s : List UInt8} {d : Int} (h : Rr w r s d) (t : List UInt8) : Rr (w.setCell ⟨r, 0, none⟩ (V (bs t))) r t d := h.set_ 0 _
theorem xfail_y (w : World) : Calls pG 89 #[.bool true] w (fun e w' => e = T (.tuple #[]) ∧ w' = w) := by
 go_enter Tryz.func89, Tryz.ntmps89
 go_wp2_with fail
 go_end0
 exact ⟨rfl, rfl⟩
theorem xfail_n (w : World) (E : Nat → Addr) (he : Errs w E) : Calls pG 89 #[.bool false] w (fun e w' => e = .panicked (panE E 3) ∧ w' = w) := by
 have cE := he.form
 unfold panE errAt
 go_enter Tryz.func89, Tryz.ntmps89
 go_wp2_with fail
 exact ⟨rfl, rfl, rfl⟩
theorem cutR_has : ∀ (t s : List UInt8), cutR t s = if Lib.hasPrefix s t = true then some (s.drop t.length) else none
 | [], s => by
  unfold Lib.hasPrefix
  rfl
 | c :: t, [] => rfl
 | c :: t, x :: s => by
  have ih := cutR_has t s
  unfold cutR
  unfold Lib.hasPrefix at ih ⊢
  rw [List.isPrefixOf_cons_cons]
  by_cases h : x = c
  ·subst h
   rw [if_pos rfl, ih]
   simp
  ·have h' : (c == x) = false := by rw [beq_eq_false_iff_ne]; exact fun e => h e.symm
   rw [if_neg h, h', Bool.false_and]
   rfl
theorem bs_arr (l : List UInt8) : (⟨l.toArray⟩ : ByteArray) = bs l := rfl
theorem rcut_y {r : Nat} {s t s' : List UInt8} {d : Int} (w : World) (hr : Rr w r s d) (hc : cutR t s = some s') :
  Calls pG 144 #[N (some ⟨r, 0, none⟩), V (bs t)] w fun e w' => e = T (.tuple #[]) ∧ Rr w' r s' d ∧ Only r w w' := by
 have HC := hI (Tryz.strings_CutPrefix (bs s) (bs t) w)
 rw [cutR_has] at hc
 split at hc
 rotate_left 1
 ·cases hc
 rename_i hp
 cases hc
 have h1 : (bs s).data.toList = s := by simp [bs]
 have h2 : (bs t).data.toList = t := by simp [bs]
 have h3 : Lib.trimPrefix s t = s.drop t.length := by unfold Lib.trimPrefix; rw [if_pos hp]
 rw [h1, h2, hp, h3, bs_arr] at HC
 have HF := hI (xfail_y w)
 have c0 := (hr.cell 0).trans rfl
 have f0 := hr.frozen 0
 have HR := hI (Rr.set0 hr (s.drop t.length))
 have HO := hI ((Only.refl r w).set_ 0 (V (bs (s.drop t.length))))
 clear hp h1 h2 h3 hr
 go_enter Tryz.func144, Tryz.ntmps144
 go_wp2_with (first | (go_at_call 159; refine HC.out.mono ?_; rintro e w1 ⟨rfl, rfl⟩) | (go_at_call 89; refine HF.out.mono ?_; rintro e w1 ⟨rfl, rfl⟩))
 go_end0
 exact ⟨rfl, HR.out, HO.out⟩
theorem rcut_n {r : Nat} {s t : List UInt8} {d : Int} (w : World) (E : Nat → Addr) (he : Errs w E) (hr : Rr w r s d) (hc : cutR t s = none) :
  Calls pG 144 #[N (some ⟨r, 0, none⟩), V (bs t)] w fun e w' => e = .panicked (panE E 3) ∧ w' = w := by
 have HC := hI (Tryz.strings_CutPrefix (bs s) (bs t) w)
 rw [cutR_has] at hc
 split at hc
 ·cases hc
 rename_i hp
 have h1 : (bs s).data.toList = s := by simp [bs]
 have h2 : (bs t).data.toList = t := by simp [bs]
 rw [h1, h2, Bool.eq_false_iff.2 hp] at HC
 have HF := hI (xfail_n w E he)
 have c0 := (hr.cell 0).trans rfl
 clear hp h1 h2 hr hc he
 go_enter Tryz.func144, Tryz.ntmps144
 go_wp2_with (first | (go_at_call 159; refine HC.out.mono ?_; rintro e w1 ⟨rfl, rfl⟩) | (go_at_call 89; refine HF.out.mono ?_; rintro e w1 ⟨rfl, rfl⟩))
 exact ⟨rfl, rfl, rfl⟩
theorem blank_set (s : List UInt8) : Lib.trimLeftS s [32, 9, 10, 13] = blankR s := by
 unfold Lib.trimLeftS blankR
 congr 1
 funext c
 unfold isBl
 simp only [List.contains_cons, List.contains_nil, Bool.or_false, Bool.or_assoc]
theorem blank_len (s : List UInt8) : (blankR s).length ≤ s.length := by
 unfold blankR
 exact (List.dropWhile_sublist _).length_le
theorem rblank_any {r : Nat} {s : List UInt8} {d : Int} (w : World) (hr : Rr w r s d) (hs : s.length ≤ 1000000) :
  Calls pG 150 #[N (some ⟨r, 0, none⟩)] w fun e w' => e = T (.int .i64 ((s.length - (blankR s).length : Nat) : Int)) ∧ Rr w' r (blankR s) d ∧ But [r] w w' := by
 have HT := hI (Any.strings_TrimLeft_laid Tryz.lays161 (by kernel_rfl) (bs s) ⟨#[32, 9, 10, 13]⟩ w (by decide) (ascii_of_all (by decide)))
 have h1 : (bs s).data.toList = s := by simp [bs]
 rw [h1, show (⟨#[32, 9, 10, 13]⟩ : ByteArray).data.toList = [32, 9, 10, 13] from rfl, blank_set, bs_arr] at HT
 have hl := blank_len s
 have c0 := (hr.cell 0).trans rfl
 have HR := hI hr
 generalize blankR s = t at *
 have hz1 := bs_size s
 have hz2 := bs_size t
 clear h1 hr
 go_enter Tryz.func150, Tryz.ntmps150
 go_wp2_with fail
 refine HT.out.mono ?_
 rintro e w1 ⟨rfl, hb⟩
 have hr1 := HR.out.below hb HR.out.lt
 have c1 := (hr1.cell 0).trans rfl
 have f1 := hr1.frozen 0
 have HR1 := hI (Rr.set0 hr1 t)
 have c2 := (HR1.out.cell 0).trans rfl
 have HB := hI ((But.of_below (S := [r]) hb).set_ r 0 (V (bs t)) (by simp))
 clear hb hr1 c0 HT
 go_wp2_with fail
 go_ret
 exact ⟨by rw [show ((s.length - t.length : Nat) : Int) = (s.length : Int) - (t.length : Int) by omega] <;> rfl, HR1.out, HB.out⟩
theorem lower_any (c : UInt8) (w : World) : Calls pG 261 #[.int .u8 c.toNat] w fun e w' => e = T (.int .u8 (lowF c).toNat) ∧ w' = w := by
 have hc : c.toNat < 256 := c.toNat_lt
 unfold lowF
 by_cases h1 : 65 ≤ c.toNat
 ·by_cases h2 : c.toNat ≤ 70
  ·have g1 : decide ((65 : Int) ≤ (c.toNat : Int)) = true := decide_eq_true (by omega)
   have g2 : decide ((c.toNat : Int) ≤ 70) = true := decide_eq_true (by omega)
   have hX : RowKit.Hid ((if 65 ≤ c.toNat ∧ c.toNat ≤ 70 then UInt8.ofNat (c.toNat + 32) else c).toNat = c.toNat + 32) := hI (by rw [if_pos ⟨h1, h2⟩]; simp; omega)
   rw [hX.out]
   clear hX
   go_enter Tryz.func261, Tryz.ntmps261
   go_wp2_with fail
   go_ret
   refine ⟨?_, rfl⟩
   simp [IntKind.wrap]
   omega
  ·have g1 : decide ((65 : Int) ≤ (c.toNat : Int)) = true := decide_eq_true (by omega)
   have g2 : decide ((c.toNat : Int) ≤ 70) = false := decide_eq_false (by omega)
   rw [if_neg (fun h => h2 h.2)]
   go_enter Tryz.func261, Tryz.ntmps261
   go_wp2_with fail
   go_ret
   exact ⟨rfl, rfl⟩
 ·have g1 : decide ((65 : Int) ≤ (c.toNat : Int)) = false := decide_eq_false (by omega)
  rw [if_neg (fun h => h1 h.1)]
  go_enter Tryz.func261, Tryz.ntmps261
  go_wp2_with fail
  go_ret
  exact ⟨rfl, rfl⟩
theorem named_any (s : List UInt8) (w : World) : Calls pG 259 #[V (bs s)] w fun e w' => e = T (.tuple #[V (bs ((namedF s).getD [])), .bool (namedF s).isSome]) ∧ w' = w := by
 obtain ⟨R, hR⟩ : ∃ R, namedF s = R := ⟨_, rfl⟩
 rw [hR]
 unfold namedF at hR
 by_cases h1 : s = [108, 116]
 ·subst h1
  subst hR
  go_enter Tryz.func259, Tryz.ntmps259
  go_wp2_with fail
  go_ret2
  exact ⟨rfl, rfl⟩
 rw [if_neg h1] at hR
 have b1 : (s == [108, 116]) = false := by rw [beq_eq_false_iff_ne]; exact h1
 clear h1
 by_cases h2 : s = [103, 116]
 ·subst h2
  subst hR
  go_enter Tryz.func259, Tryz.ntmps259
  go_wp2_with fail
  go_ret2
  exact ⟨rfl, rfl⟩
 rw [if_neg h2] at hR
 have b2 : (s == [103, 116]) = false := by rw [beq_eq_false_iff_ne]; exact h2
 clear h2
 by_cases h3 : s = [97, 109, 112]
 ·subst h3
  subst hR
  go_enter Tryz.func259, Tryz.ntmps259
  go_wp2_with fail
  go_ret2
  exact ⟨rfl, rfl⟩
 rw [if_neg h3] at hR
 have b3 : (s == [97, 109, 112]) = false := by rw [beq_eq_false_iff_ne]; exact h3
 clear h3
 by_cases h4 : s = [113, 117, 111, 116]
 ·subst h4
  subst hR
  go_enter Tryz.func259, Tryz.ntmps259
  go_wp2_with fail
  go_ret2
  exact ⟨rfl, rfl⟩
 rw [if_neg h4] at hR
 have b4 : (s == [113, 117, 111, 116]) = false := by rw [beq_eq_false_iff_ne]; exact h4
 clear h4
 by_cases h5 : s = [97, 112, 111, 115]
 ·subst h5
  subst hR
  go_enter Tryz.func259, Tryz.ntmps259
  go_wp2_with fail
  go_ret2
  exact ⟨rfl, rfl⟩
 rw [if_neg h5] at hR
 have b5 : (s == [97, 112, 111, 115]) = false := by rw [beq_eq_false_iff_ne]; exact h5
 clear h5
 subst hR
 go_enter Tryz.func259, Tryz.ntmps259
 go_wp2_with fail
 go_ret2
 exact ⟨rfl, rfl⟩
end
section
set_option maxHeartbeats 4000000
set_option maxRecDepth 100000
open Go.RowKit
attribute [local irreducible] wpPhi
theorem idxrune_bad (m : UInt8) (hm : m.toNat < 128) (w : World) :
  Calls pG 257 #[V ⟨#[m, 60]⟩, .int .i32 65533] w fun e w' => e = T (.int .i64 (-1)) ∧ Below w.heap.size w w' := by
 obtain ⟨s, hs⟩ : ∃ s : ByteArray, s = ⟨#[m, 60]⟩ := ⟨_, rfl⟩
 have hsz : s.size = 2 := by rw [hs]; rfl
 have hb : ∀ i (h : i < s.size), (s[i]'h).toNat < 128 := by
  intro i h
  have hi : i < 2 := by rw [← hsz]; exact h
  have h0 : i = 0 ∨ i = 1 := by omega
  subst hs
  rcases h0 with rfl | rfl
  ·exact hm
  ·show (60 : UInt8).toNat < 128
   decide
 rw [← hs]
 have HB := hI hb
 have HZ := hI hsz
 clear hs hb hsz hm
 go_enter Tryz.func257, Tryz.ntmps257
 go_wp2_with fail
 go_loopw [] (fun wr => ∃ pos : Nat, wr.heap[w.heap.size]? = some (.stringIter s pos) ∧ Below w.heap.size w wr) (fun wr => s.size - wr.iterPos w.heap.size)
 case atStart => exact ⟨0, World.iter_heap w s 0, hI (Below.refl w.heap.size w) |>.out.alloc (nR _) _⟩
 case round =>
  obtain ⟨pos, hit, hbw⟩ := hrel
  by_cases hp : pos < s.size
  ·have hnx : ∀ ty, (Instr.next (N (some ⟨w.heap.size, 0, none⟩)) true ty).run pG wr = _ := fun ty => Lib.run_next_any_at wr w.heap.size s pos ty hit hp
   have hdc := decode_ascii s pos hp (HB.out pos hp)
   have hb := HB.out pos hp
   generalize (s[pos]'hp) = b at *
   rw [hdc] at hnx
   have hit2 := Lib.iterAt_heap wr w.heap.size s pos (pos + 1) hit
   have hbw2 := Lib.below_iterAt hbw (k := w.heap.size) (nR _) s (pos + 1)
   have hne : ((b.toNat : Int) == 65533) = false := by rw [beq_eq_false_iff_ne]; omega
   go_wp2_with fail
   go_roundw
   case rel => exact ⟨pos + 1, hit2, hbw2⟩
   case measure =>
    simp only [World.iterPos, hit2, hit]
    omega
  ·have hnx : ∀ ty, (Instr.next (N (some ⟨w.heap.size, 0, none⟩)) true ty).run pG wr = _ := fun ty => Lib.run_next_end_at wr w.heap.size s pos ty hit hp
   go_wp2_with fail
   go_ret
   exact ⟨rfl, hbw⟩
theorem idxrune_high (m : UInt8) (hm : m.toNat < 128) (r : Int) (h1 : 128 ≤ r) (w : World) :
  Calls pG 257 #[V ⟨#[m, 60]⟩, .int .i32 r] w fun e w' => e = T (.int .i64 (-1)) ∧ Below w.heap.size w w' := by
 by_cases hbad : r = 65533
 ·subst hbad
  exact idxrune_bad m hm w
 have g1 : decide ((0 : Int) ≤ r) = true := decide_eq_true (by omega)
 have g2 : decide (r < (128 : Int)) = false := decide_eq_false (by omega)
 have g3 : (r == 65533) = false := by rw [beq_eq_false_iff_ne]; exact hbad
 have HV := hI (Tryz.utf8_ValidRune r w)
 cases hv : Lib.validRune r <;> rw [hv] at HV
 ·clear hv hbad h1 hm
  go_enter Tryz.func257, Tryz.ntmps257
  go_wp2_with (go_at_call 220; refine HV.out.mono ?_; rintro e w1 ⟨rfl, rfl⟩)
  go_ret
  exact ⟨rfl, Below.refl _ _⟩
 have hf := encode_facts r (by rw [validRune_eq]; exact hv) h1
 generalize hR : Utf8.encode r = R at hf
 obtain ⟨hz2, hz4, hl⟩ := hf
 clear hv hbad h1
 by_cases hz : R.size = 2
 ·obtain ⟨b, hb, hb2⟩ : ∃ b : UInt8, R[1]'(by omega) = b ∧ 128 ≤ b.toNat := ⟨_, rfl, by have := hl (by omega); simp only [hz] at this; exact this⟩
  have g4 : decide ((1 : Int) < 2) = true := by decide
  have g5 : ((60 : Int) != (b.toNat : Int)) = true := by simp; omega
  have HI := hI (fun w1 => show Calls pG 260 #[V ⟨#[]⟩, .int .u8 (b.toNat : Int)] w1 (fun e w' => e = T (.int .i64 (-1)) ∧ Below w1.heap.size w1 w') from (Tryz.strings_IndexByte (⟨#[]⟩ : ByteArray) (b.toNat : Int) w1).mono fun e w' h => ⟨h.1, by rw [h.2]; exact Below.refl _ _⟩)
  have hsl : ∀ w, (Instr.slice 9 (V ⟨#[m, 60]⟩) (some (.int .i64 2)) none none).run pG w = .ok (V ⟨#[]⟩) w := fun w => run_str_from Tryz.underlying9 [m, 60] 2 (by simp) w
  have hx : (⟨#[m, 60]⟩ : ByteArray).size = 2 := rfl
  go_enter Tryz.func257, Tryz.ntmps257
  go_wp2_with (go_at_call 220; refine HV.out.mono ?_; rintro e w1 ⟨rfl, rfl⟩)
  go_step3
  go_wp2_with fail
  obtain ⟨w0, rfl⟩ : ∃ w0, w0 = w1 := ⟨_, rfl⟩
  go_loopw [9] (fun u wr => u = .int .i64 1 ∧ wr = w0) (fun _ _ => 0)
  case atStart => exact ⟨rfl, rfl⟩
  case round =>
   obtain ⟨rfl, rfl⟩ := hrel
   go_wp2_with fail
   go_step3
   go_wp2_with fail
   refine wp_phi (fun w' => Below wr.heap.size wr w') [] [] (by kernel_rfl) (by kernel_rfl) ?_ ?_ ((Below.refl _ wr)).drew ?_
   ·rintro w1' w2' hIB hb
    exact hIB.trans (hb.mono hIB.size)
   ·intro p hp; cases hp
   repeat ((first | refine phi_skipK rfl (fun K hK => ?_) | (refine phi_pureK rfl rfl (fun K hK => ?_); apply xI; constructor; (focus (rintro w' hIB; skip; first | (go_simp; done) | (go_simp; (try go_bits); (try go_simp); rfl) | go_simp)))); simp only [Act.put, lA, lB, lC, lD, lE]; apply hK; clear hK K)
   refine phi_done ?_
   rintro w2 hb2 _
   refine wpList_nil ?_
   have HB2 := hI hb2
   clear hb2
   rw [show ((((⟨#[m, 60]⟩ : ByteArray)[1]'(show 1 < 2 by omega)).toNat : Int) != (b.toNat : Int)) = true from g5]
   go_wp2_with fail
   obtain ⟨w5, rfl⟩ : ∃ w5, w5 = w2 := ⟨_, rfl⟩
   refine wp_phi (fun w' => Below w5.heap.size w5 w') [(7, PVal (.int .i64 (-1)))] [] (by kernel_rfl) (by kernel_rfl) ?_ ?_ ((Below.refl _ w5)).drew ?_
   ·rintro w1' w2' hIB hb
    exact hIB.trans (hb.mono hIB.size)
   ·simp only [List.mem_cons, List.not_mem_nil, or_false, forall_eq_or_imp, forall_eq]
    exact fun _ _ _ _ h' h => PVal_stays _ _ _ _ h' h
   repeat ((first | refine phi_skipK rfl (fun K hK => ?_) | (refine phi_pureK rfl rfl (fun K hK => ?_); apply xI; constructor; (focus (rintro w' hIB; skip; first | (go_simp; done) | (go_simp; (try go_bits); (try go_simp); rfl) | go_simp)))); simp only [Act.put, lA, lB, lC, lD, lE]; apply hK; clear hK K)
   refine phi_partK (PVal (.int .i64 (-1))) rfl rfl ⟨_, rfl⟩ ?_ (fun K hK v hv => ?_)
   ·rintro w' hIB hf
    unfold gives
    clear hf
    go_simp
    refine (HI.out w').mono ?_
    rintro e w'' ⟨rfl, hb⟩
    exact ⟨_, rfl, rfl, trivial, hb⟩
   obtain rfl : v = _ := hv
   simp only [Act.put, lA, lB, lC, lD, lE]
   apply hK
   clear hK K
   repeat ((first | refine phi_skipK rfl (fun K hK => ?_) | (refine phi_pureK rfl rfl (fun K hK => ?_); apply xI; constructor; (focus (rintro w' hIB; skip; first | (go_simp; done) | (go_simp; (try go_bits); (try go_simp); rfl) | go_simp)))); simp only [Act.put, lA, lB, lC, lD, lE]; apply hK; clear hK K)
   refine phi_done ?_
   rintro w2 hb2 _
   refine wpList_nil ?_
   go_wp2_with fail
   rw [Exit.noGoto_ret]
   go_wp2_with fail
   rw [Exit.noGoto_ret]
   go_wp2_with fail
   go_ret
   exact ⟨rfl, HB2.out.trans (hb2.mono HB2.out.size)⟩
 ·have g4 : decide (((R.size : Int) - 1) < 2) = false := decide_eq_false (by omega)
  go_enter Tryz.func257, Tryz.ntmps257
  go_wp2_with (go_at_call 220; refine HV.out.mono ?_; rintro e w1 ⟨rfl, rfl⟩)
  go_step3
  go_wp2_with fail
  obtain ⟨w0, rfl⟩ : ∃ w0, w0 = w1 := ⟨_, rfl⟩
  go_loopw [9] (fun u wr => u = .int .i64 ((R.size : Int) - 1) ∧ wr = w0) (fun _ _ => 0)
  case atStart => exact ⟨rfl, rfl⟩
  case round =>
   obtain ⟨rfl, rfl⟩ := hrel
   go_wp2_with fail
   rw [Exit.noGoto_ret]
   go_wp2_with fail
   go_ret
   exact ⟨rfl, Below.refl _ _⟩
end
section
set_option maxHeartbeats 4000000
set_option maxRecDepth 100000
open Go.RowKit
theorem enc_high {r : Int} (h : 128 ≤ r) : ∀ b ∈ Lib.encodeRune r, 128 ≤ b.toNat := by
 have hz : ∀ x ∈ Lib.encodeRuneZ r, 128 ≤ x ∧ x < 256 := by
  unfold Lib.encodeRuneZ
  rw [if_neg (by omega)]
  (repeat' split) <;> (intro x hx; simp only [List.mem_cons, List.not_mem_nil, or_false] at hx; rcases hx with rfl | rfl | rfl | rfl <;> omega)
 intro b hb
 obtain ⟨x, hx, rfl⟩ := List.mem_map.1 hb
 have := hz x hx
 simp
 omega
theorem wide_high {s : ByteArray} {pos : Nat} (h : pos < s.size) (hc : 128 ≤ (s[pos]'h).toNat) : ∀ j, j < (Utf8.decode s pos).2 → ∀ b, s.data.toList[pos + j]? = some b → 128 ≤ b.toNat := by
 intro j hj b hb
 have hd := (decode_high s pos h hc).1
 have he := Lib.encode_decode (s.data.toList.drop pos) (drop_ne h)
 rw [← dec_drop] at he
 by_cases hbad : (Utf8.decode s pos).1 = 65533 ∧ (Utf8.decode s pos).2 = 1
 ·have hj0 : j = 0 := by omega
  subst hj0
  rw [Nat.add_zero, Lib.data_getElem? s pos h] at hb
  cases hb
  exact hc
 ·have h2 := he hbad
  have h3 : b ∈ (s.data.toList.drop pos).take (Utf8.decode s pos).2 := by
   refine List.mem_of_getElem? (i := j) ?_
   rw [List.getElem?_take, if_pos hj, List.getElem?_drop]
   exact hb
  rw [← h2] at h3
  exact enc_high (by omega) b h3
theorem set_info : (pG.info? 277).map (fun i => (i.zero, i.size)) = some (some (.agg (Array.replicate 256 (.bool false))), 256) := by kernel_rfl
theorem idxany_two (m : UInt8) (hm : m.toNat < 128) (l : List UInt8) (hl : l.length ≤ 1000000) (w : World) :
  Calls pG 235 #[V (bs l), V ⟨#[m, 60]⟩] w (Gives w (.int .i64 (Lib.indexAny l [m, 60]))) := by
 have hsl : (bs l).data.toList = l := by simp [bs]
 have hsz := bs_size l
 by_cases h8 : 8 < l.length
 ·have h := Tryz.strings_IndexAny_long (zero_of_info set_info).1 (bs l) ⟨#[m, 60]⟩ w (show 2 ≤ 2 by omega) (by rw [hsz]; exact h8) (by rw [hsz]; omega) (show 2 < 4294967281 by omega) (fun j b hb => by
   match j, hb with
   | 0, hb => cases hb; exact hm
   | 1, hb => cases hb; decide)
  rw [hsl] at h
  refine h.mono ?_
  rintro e w' ⟨rfl, rfl⟩
  exact ⟨rfl, below_alloc (below_alloc1 w _) _⟩
 obtain ⟨S, hS⟩ : ∃ S, bs l = S := ⟨_, rfl⟩
 rw [hS] at hsl hsz ⊢
 obtain ⟨R, hR⟩ : ∃ R, Lib.indexAny l [m, 60] = R := ⟨_, rfl⟩
 rw [hR]
 rw [← hsl] at hR
 have h8z : decide ((8 : Int) < (S.size : Int)) = false := decide_eq_false (by omega)
 have HR := hI hR
 have HZ := hI (Tryz.strings_shouldUseASCIISet (S.size : Int) w)
 rw [h8z] at HZ
 have hcs : (⟨#[m, 60]⟩ : ByteArray).size = 2 := rfl
 clear hR hS hsl hsz hl h8 h8z
 go_enter Tryz.func235, Tryz.ntmps235
 go_wp2_with (go_at_call 258; refine HZ.out.mono ?_; rintro e w1 ⟨rfl, rfl⟩)
 obtain ⟨w0, rfl⟩ : ∃ w0, w0 = w1 := ⟨_, rfl⟩
 go_loopw [] (fun wr => ∃ pos : Nat, wr.heap[w0.heap.size]? = some (.stringIter S pos) ∧ Below w0.heap.size w0 wr ∧ Lib.NoAny S.data.toList [m, 60] pos) (fun wr => S.size - wr.iterPos w0.heap.size)
 case atStart => exact ⟨0, World.iter_heap w0 S 0, (hI (Below.refl w0.heap.size w0)).out.alloc (nR _) _, Lib.NoAny.zero _ _⟩
 case round =>
  obtain ⟨pos, hit, hbw, hno⟩ := hrel
  have HNO := hI hno
  clear hno
  by_cases hp : pos < S.size
  ·have hnx : ∀ ty, (Instr.next (N (some ⟨w0.heap.size, 0, none⟩)) true ty).run pG wr = _ := fun ty => Lib.run_next_any_at wr w0.heap.size S pos ty hit hp
   have hxl : S.data.toList[pos]? = some (S[pos]'hp) := Lib.data_getElem? S pos hp
   by_cases hc : (S[pos]'hp).toNat < 128
   ·have hdc := decode_ascii S pos hp hc
    rw [hdc] at hnx
    generalize (S[pos]'hp) = b at *
    have hit2 := Lib.iterAt_heap wr w0.heap.size S pos (pos + 1) hit
    have hbw2 := Lib.below_iterAt hbw (k := w0.heap.size) (nR _) S (pos + 1)
    have HX := hI hxl
    have hcon := Lib.contains_iff_indexByte [m, 60] b
    have hback : ((b.toNat : Int)).toNat.toUInt8 = b := by simp
    have HI := hI (Tryz.strings_IndexRune_ascii ⟨#[m, 60]⟩ (b.toNat : Int) (wr.iterAt w0.heap.size S (pos + 1)) (by omega) (by omega))
    rw [hback] at HI
    clear hxl hdc hback
    cases hin : [m, 60].contains b
    ·rw [hin] at hcon
     have hlt : decide ((0 : Int) ≤ Lib.indexByte (⟨#[m, 60]⟩ : ByteArray).data.toList b) = false := hcon.symm
     have HIN := hI hin
     clear hcon hin
     go_wp2_with (go_at_call 257; refine HI.out.mono ?_; rintro e w2 ⟨rfl, rfl⟩)
     go_roundw
     case rel => exact ⟨pos + 1, hit2, hbw2, HNO.out.succ HX.out HIN.out⟩
     case measure =>
      simp only [World.iterPos, hit2, hit]
      omega
    ·rw [hin] at hcon
     have hlt : decide ((0 : Int) ≤ Lib.indexByte (⟨#[m, 60]⟩ : ByteArray).data.toList b) = true := hcon.symm
     have HIN := hI hin
     clear hcon hin
     go_wp2_with (go_at_call 257; refine HI.out.mono ?_; rintro e w2 ⟨rfl, rfl⟩)
     go_ret
     exact ⟨by rw [← HR.out, Lib.indexAny_hit HNO.out HX.out HIN.out] <;> rfl, hbw2⟩
   ·have hwd := width_pos S pos hp
    have hd := decode_high S pos hp (by omega)
    have HWH := hI (wide_high hp (by omega))
    have hit2 := Lib.iterAt_heap wr w0.heap.size S pos (pos + (Utf8.decode S pos).2) hit
    have hbw2 := Lib.below_iterAt hbw (k := w0.heap.size) (nR _) S (pos + (Utf8.decode S pos).2)
    have hd1 := decode_le S pos
    generalize (Utf8.decode S pos).2 = wd at *
    generalize (Utf8.decode S pos).1 = rn at *
    have HI := hI (idxrune_high m hm (rn : Int) (by omega) (wr.iterAt w0.heap.size S (pos + wd)))
    clear hxl hc
    go_wp2_with (go_at_call 257; refine HI.out.mono ?_; rintro e w2 ⟨rfl, hb2⟩)
    have hit3 := (hb2.block w0.heap.size (Array.getElem?_eq_some_iff.1 hit2).1).trans hit2
    have hbw3 := hbw2.trans (hb2.mono hbw2.size)
    go_roundw
    case rel =>
     refine ⟨pos + wd, hit3, hbw3, ?_⟩
     intro j b hj hb
     by_cases hjp : j < pos
     ·exact HNO.out j b hjp hb
     ·have h1 := HWH.out (j - pos) (by omega) b (by rw [show pos + (j - pos) = j by omega]; exact hb)
      simp only [List.contains_cons, List.contains_nil, Bool.or_false, Bool.or_eq_false_iff, beq_eq_false_iff_ne]
      refine ⟨?_, ?_⟩
      ·rintro rfl; omega
      ·rintro rfl; exact absurd h1 (by decide)
    case measure =>
     simp only [World.iterPos, hit3, hit]
     omega
  ·have hnx : ∀ ty, (Instr.next (N (some ⟨w0.heap.size, 0, none⟩)) true ty).run pG wr = _ := fun ty => Lib.run_next_end_at wr w0.heap.size S pos ty hit hp
   go_wp2_with fail
   go_ret
   refine ⟨by rw [← HR.out, Lib.indexAny_none fun j b hj hb => HNO.out j b (by rw [← Lib.size_eq] at hj; omega) hb] <;> rfl, hbw⟩
end
section
set_option maxHeartbeats 4000000
set_option maxRecDepth 100000
open Go.RowKit
attribute [local go_sem] bs_toList
theorem idx_up (p : UInt8 → Bool) (cs : List UInt8) (hp : ∀ c, cs.contains c = p c) : ∀ s : List UInt8, Lib.indexAny s cs = if s.any p = true then ((s.takeWhile fun c => !p c).length : Int) else -1
 | [] => by simp [Lib.indexAny]
 | c :: s => by
  have ih := idx_up p cs hp s
  unfold Lib.indexAny
  rw [hp, ih]
  cases hc : p c
  ·by_cases ha : s.any p = true
   ·simp [hc, ha]
   ·simp [hc, ha]
  ·simp [hc]
theorem take_tw (p : UInt8 → Bool) : ∀ s : List UInt8, s.take (s.takeWhile p).length = s.takeWhile p
 | [] => rfl
 | c :: s => by
  rw [List.takeWhile_cons]
  cases p c
  ·rfl
  ·simp [take_tw p s]
theorem drop_tw (p : UInt8 → Bool) : ∀ s : List UInt8, s.drop (s.takeWhile p).length = s.dropWhile p
 | [] => rfl
 | c :: s => by
  rw [List.takeWhile_cons, List.dropWhile_cons]
  cases p c
  ·rfl
  ·simp [drop_tw p s]
theorem tw_le (p : UInt8 → Bool) (s : List UInt8) : (s.takeWhile p).length ≤ s.length := (List.takeWhile_sublist _).length_le
theorem rupto_y {r : Nat} {s a b : List UInt8} {d : Int} (p : UInt8 → Bool) (cs : ByteArray) (w : World) (hr : Rr w r s d)
  (hi : ∀ w, Calls pG 235 #[V (bs s), .string cs] w (Gives w (.int .i64 (if s.any p = true then ((s.takeWhile fun c => !p c).length : Int) else -1)))) (h : upR p s = some (a, b)) :
  Calls pG 199 #[N (some ⟨r, 0, none⟩), .string cs] w fun e w' => e = T (V (bs a)) ∧ Rr w' r b d ∧ But [r] w w' := by
 unfold upR at h
 split at h
 rotate_left 1
 ·cases h
 rename_i hany
 cases h
 have HI := hI hi
 rw [if_pos hany] at HI
 have hle := tw_le (fun c => !p c) s
 have ht := take_tw (fun c => !p c) s
 have hd := drop_tw (fun c => !p c) s
 generalize (s.takeWhile fun c => !p c) = A at *
 generalize (s.dropWhile fun c => !p c) = B at *
 have s1 : ∀ w, (Instr.slice 9 (V (bs s)) none (some (.int .i64 (A.length : Int))) none).run pG w = .ok (V (bs A)) w := fun w => by
  have := run_str_to Tryz.underlying9 s A.length hle w
  rwa [ht] at this
 have s2 : ∀ w, (Instr.slice 9 (V (bs s)) (some (.int .i64 (A.length : Int))) none none).run pG w = .ok (V (bs B)) w := fun w => by
  have := run_str_from Tryz.underlying9 s A.length hle w
  rwa [hd] at this
 have c0 := (hr.cell 0).trans rfl
 have HR := hI hr
 have HF := hI (fun w => xfail_y w)
 have hge : decide ((0 : Int) ≤ (A.length : Int)) = true := decide_eq_true (by omega)
 clear hany hi hr ht hd hle
 go_enter Tryz.func199, Tryz.ntmps199
 go_wp2_with fail
 refine (HI.out w).mono ?_
 rintro e w1 ⟨rfl, hb⟩
 have hr1 := HR.out.below hb HR.out.lt
 have c1 := (hr1.cell 0).trans rfl
 have f1 := hr1.frozen 0
 have HR1 := hI (Rr.set0 hr1 B)
 have HB := hI ((But.of_below (S := [r]) hb).set_ r 0 (V (bs B)) (by simp))
 clear hb hr1 c0
 go_wp2_with (go_at_call 89; refine (HF.out _).mono ?_; rintro e w2 ⟨rfl, rfl⟩)
 go_ret
 exact ⟨rfl, HR1.out, HB.out⟩
theorem rupto_n {r : Nat} {s : List UInt8} {d : Int} (p : UInt8 → Bool) (cs : ByteArray) (w : World) (E : Nat → Addr) (he : Errs w E) (hr : Rr w r s d)
  (hi : ∀ w, Calls pG 235 #[V (bs s), .string cs] w (Gives w (.int .i64 (if s.any p = true then ((s.takeWhile fun c => !p c).length : Int) else -1)))) (h : upR p s = none) :
  Calls pG 199 #[N (some ⟨r, 0, none⟩), .string cs] w fun e w' => e = .panicked (panE E 3) ∧ Below w.heap.size w w' := by
 unfold upR at h
 split at h
 ·cases h
 rename_i hany
 have HI := hI hi
 rw [if_neg hany] at HI
 have c0 := (hr.cell 0).trans rfl
 have HE := hI he
 clear hany hi hr he h
 go_enter Tryz.func199, Tryz.ntmps199
 go_wp2_with fail
 refine (HI.out w).mono ?_
 rintro e w1 ⟨rfl, hb⟩
 have HF := hI (xfail_n w1 E (HE.out.below hb))
 have HB := hI hb
 clear hb c0
 go_wp2_with (go_at_call 89; refine HF.out.mono ?_; rintro e w2 ⟨rfl, rfl⟩)
 exact ⟨rfl, rfl, HB.out⟩
theorem idx_lt (s : List UInt8) (w : World) : Calls pG 235 #[V (bs s), V ⟨#[60]⟩] w (Gives w (.int .i64 (if s.any (fun c => c == 60) = true then ((s.takeWhile fun c => !(c == 60)).length : Int) else -1))) := by
 have h := Tryz.strings_IndexAny_one (bs s) ⟨#[60]⟩ w rfl (fun j b hb => by
  match j, hb with
  | 0, hb => cases hb; decide)
 rw [show (bs s).data.toList = s by simp [bs], show (⟨#[60]⟩ : ByteArray).data.toList = [60] from rfl, idx_up (fun c => c == 60) [60] (fun c => by simp only [List.contains_cons, List.contains_nil, Bool.or_false])] at h
 refine h.mono ?_
 rintro e w' ⟨rfl, rfl⟩
 exact ⟨rfl, Below.refl _ _⟩
theorem idx_mark (m : UInt8) (hm : m.toNat < 128) (s : List UInt8) (hs : s.length ≤ 1000000) (w : World) : Calls pG 235 #[V (bs s), V ⟨#[m, 60]⟩] w (Gives w (.int .i64 (if s.any (fun c => c == m || c == 60) = true then ((s.takeWhile fun c => !(c == m || c == 60)).length : Int) else -1))) := by
 have h := idxany_two m hm s hs w
 rw [idx_up (fun c => c == m || c == 60) [m, 60] (fun c => by simp only [List.contains_cons, List.contains_nil, Bool.or_false])] at h
 exact h
end
section
set_option maxHeartbeats 4000000
set_option maxRecDepth 100000
open Go.RowKit
attribute [local go_sem] bs_toList
theorem tw_at (p : UInt8 → Bool) : ∀ (s : List UInt8) (k : Nat) (h : k < s.length), k < (s.takeWhile p).length → p s[k] = true
 | c :: s, 0, h, hk => by
  rw [List.takeWhile_cons] at hk
  cases hc : p c
  ·rw [hc] at hk; simp at hk
  ·exact hc
 | c :: s, k + 1, h, hk => by
  rw [List.takeWhile_cons] at hk
  cases hc : p c
  ·rw [hc] at hk; simp at hk
  ·rw [hc] at hk
   exact tw_at p s k (by simpa using h) (by simpa using hk)
theorem tw_end (p : UInt8 → Bool) : ∀ (s : List UInt8) (h : (s.takeWhile p).length < s.length), p (s[(s.takeWhile p).length]'h) = false
 | [], h => by simp at h
 | c :: s, h => by
  cases hc : p c
  ·have : ((c :: s).takeWhile p) = [] := by rw [List.takeWhile_cons, hc]; rfl
   simp only [this, List.length_nil, List.getElem_cons_zero]
   exact hc
  ·have : ((c :: s).takeWhile p) = c :: s.takeWhile p := by rw [List.takeWhile_cons, hc]; rfl
   simp only [this, List.length_cons] at h ⊢
   exact tw_end p s (by omega)
def LibX (r : Nat) (w : World) (E : Nat → Addr) : Prop := ∃ W0 : World, W0.heap.size ≤ r ∧ Below W0.heap.size W0 w ∧ LibG W0 ∧ Errs W0 E
theorem LibX.lib {r : Nat} {w : World} {E : Nat → Addr} (h : LibX r w E) : LibG w := by
 obtain ⟨W0, _, hb, hg, _⟩ := h
 exact hg.below hb
theorem LibX.errs {r : Nat} {w : World} {E : Nat → Addr} (h : LibX r w E) : Errs w E := by
 obtain ⟨W0, _, hb, _, he⟩ := h
 exact he.below hb
theorem LibX.but {r : Nat} {w w' : World} {E : Nat → Addr} (h : LibX r w E) (hb : But [r] w w') : LibX r w' E := by
 obtain ⟨W0, hr, hb0, hg, he⟩ := h
 exact ⟨W0, hr, hb0.trans (hb.below (by intro s hs; rw [List.mem_singleton.1 hs]; exact hr) hb0.size), hg, he⟩
theorem rname_y {r : Nat} {s a b : List UInt8} {d : Int} (E : Nat → Addr) (w : World) (hx : LibX r w E) (hr : Rr w r s d) (hs : s.length ≤ 1000000) (h : nameR s = some (a, b)) :
  Calls pG 145 #[N (some ⟨r, 0, none⟩)] w fun e w' => e = T (V (bs a)) ∧ Rr w' r b d ∧ But [r] w w' := by
 unfold nameR at h
 split at h
 rotate_left 1
 ·cases h
 rename_i hnm
 cases h
 have hsz := bs_size s
 have hle := tw_le nmC s
 have ht := take_tw nmC s
 have hd := drop_tw nmC s
 have HK1 := hI (fun k hk => tw_at nmC s k hk)
 have HK2 := hI (tw_end nmC s)
 have HN := hI (fun w (hg : LibG w) => name_any (s.takeWhile nmC) (by omega) w hg)
 rw [hnm] at HN
 clear hnm
 generalize s.takeWhile nmC = A at *
 generalize s.dropWhile nmC = B at *
 have s1 : ∀ w, (Instr.slice 9 (V (bs s)) none (some (.int .i64 (A.length : Int))) none).run pG w = .ok (V (bs A)) w := fun w => by
  have := run_str_to Tryz.underlying9 s A.length hle w
  rwa [ht] at this
 have s2 : ∀ w, (Instr.slice 9 (V (bs s)) (some (.int .i64 (A.length : Int))) none none).run pG w = .ok (V (bs B)) w := fun w => by
  have := run_str_from Tryz.underlying9 s A.length hle w
  rwa [hd] at this
 have HLE := hI hle
 have c0 := (hr.cell 0).trans rfl
 have f0 := hr.frozen 0
 have HRB := hI (Rr.set0 hr B)
 have hbut := (But.of_below (S := [r]) (Below.refl w.heap.size w)).set_ r 0 (V (bs B)) (by simp)
 have HBB := hI hbut
 have HLX := hI (hx.but hbut)
 have HF := hI (fun w => xfail_y w)
 clear ht hd hle hr hx hbut
 go_enter Tryz.func145, Tryz.ntmps145
 go_wp2_with fail
 obtain ⟨wo, rfl⟩ : ∃ wo, wo = w := ⟨_, rfl⟩
 go_loopw [3] (fun i wr => ∃ k : Nat, k ≤ A.length ∧ i = .int .i64 k ∧ wr = wo) (fun i _ => s.length - (intOf i).toNat)
 case atStart => exact ⟨0, by omega, rfl, rfl⟩
 case round =>
  obtain ⟨k, hk, rfl, rfl⟩ := hrel
  by_cases hlt : k < s.length
  ·have hki : (k : Int) < ((bs s).size : Int) := by rw [hsz]; omega
   have hlk : (bs s)[k]'(by rw [hsz]; exact hlt) = s[k] := rfl
   have HS := hI (sign_any s[k] wr)
   have HK3 := hI (HK1.out k hlt)
   by_cases hkA : k < A.length
   ·have hn := HK3.out hkA
    unfold nmC at hn
    clear HK3
    have HC := hI hn
    cases hs : sgnB s[k]
    ·rw [hs] at HS hn
     have h58 : ((s[k].toNat : Int) == 58) = true := by
      have : s[k] = 58 := by simpa using hn
      rw [this]
      rfl
     clear hn hs HC
     go_wp2_with (go_at_call 195; refine HS.out.mono ?_; rintro e w1 ⟨rfl, rfl⟩)
     go_roundw
     case rel => exact ⟨k + 1, by omega, by go_num, trivial⟩
     case measure => simp [intOf]; omega
    ·rw [hs] at HS
     clear hn hs HC
     go_wp2_with (go_at_call 195; refine HS.out.mono ?_; rintro e w1 ⟨rfl, rfl⟩)
     go_roundw
     case rel => exact ⟨k + 1, by omega, by go_num, trivial⟩
     case measure => simp [intOf]; omega
   ·obtain rfl : k = A.length := by omega
    have hn := HK2.out hlt
    unfold nmC at hn
    rw [Bool.or_eq_false_iff] at hn
    rw [hn.1] at HS
    have h58 : ((s[A.length].toNat : Int) == 58) = false := by
     rw [beq_eq_false_iff_ne]
     have := beq_eq_false_iff_ne.1 hn.2
     intro e
     exact this (UInt8.toNat_inj.1 (by
      have : (58 : UInt8).toNat = 58 := rfl
      omega))
    clear hn HK3
    go_wp2_with (go_at_call 195; refine HS.out.mono ?_; rintro e w1 ⟨rfl, rfl⟩)
    refine (HN.out _ HLX.out.lib).mono ?_
    rintro e w2 ⟨rfl, hb2⟩
    have HR2 := hI (HRB.out.below hb2 HRB.out.lt)
    have HB2 := hI (HBB.out.trans (But.of_below hb2))
    clear hb2
    go_wp2_with (go_at_call 89; refine (HF.out _).mono ?_; rintro e w3 ⟨rfl, rfl⟩)
    go_ret
    exact ⟨rfl, HR2.out, HB2.out⟩
  ·obtain rfl : k = A.length := by
    have := HLE.out
    omega
   go_wp2_with fail
   refine (HN.out _ HLX.out.lib).mono ?_
   rintro e w2 ⟨rfl, hb2⟩
   have HR2 := hI (HRB.out.below hb2 HRB.out.lt)
   have HB2 := hI (HBB.out.trans (But.of_below hb2))
   clear hb2
   go_wp2_with (go_at_call 89; refine (HF.out _).mono ?_; rintro e w3 ⟨rfl, rfl⟩)
   go_ret
   exact ⟨rfl, HR2.out, HB2.out⟩
theorem rname_n {r : Nat} {s : List UInt8} {d : Int} (E : Nat → Addr) (w : World) (hx : LibX r w E) (hr : Rr w r s d) (hs : s.length ≤ 1000000) (h : nameR s = none) :
  Calls pG 145 #[N (some ⟨r, 0, none⟩)] w fun e w' => e = .panicked (panE E 3) ∧ But [r] w w' ∧ ∃ s', Rr w' r s' d := by
 unfold nameR at h
 split at h
 ·cases h
 rename_i hnm
 have hsz := bs_size s
 have hle := tw_le nmC s
 have ht := take_tw nmC s
 have hd := drop_tw nmC s
 have HK1 := hI (fun k hk => tw_at nmC s k hk)
 have HK2 := hI (tw_end nmC s)
 have HN := hI (fun w (hg : LibG w) => name_any (s.takeWhile nmC) (by omega) w hg)
 rw [Bool.eq_false_iff.2 hnm] at HN
 clear hnm
 generalize s.takeWhile nmC = A at *
 generalize s.dropWhile nmC = B at *
 have s1 : ∀ w, (Instr.slice 9 (V (bs s)) none (some (.int .i64 (A.length : Int))) none).run pG w = .ok (V (bs A)) w := fun w => by
  have := run_str_to Tryz.underlying9 s A.length hle w
  rwa [ht] at this
 have s2 : ∀ w, (Instr.slice 9 (V (bs s)) (some (.int .i64 (A.length : Int))) none none).run pG w = .ok (V (bs B)) w := fun w => by
  have := run_str_from Tryz.underlying9 s A.length hle w
  rwa [hd] at this
 have HLE := hI hle
 have c0 := (hr.cell 0).trans rfl
 have f0 := hr.frozen 0
 have HRB := hI (Rr.set0 hr B)
 have hbut := (But.of_below (S := [r]) (Below.refl w.heap.size w)).set_ r 0 (V (bs B)) (by simp)
 have HBB := hI hbut
 have HLX := hI (hx.but hbut)
 clear ht hd hle hr hx hbut
 go_enter Tryz.func145, Tryz.ntmps145
 go_wp2_with fail
 obtain ⟨wo, rfl⟩ : ∃ wo, wo = w := ⟨_, rfl⟩
 go_loopw [3] (fun i wr => ∃ k : Nat, k ≤ A.length ∧ i = .int .i64 k ∧ wr = wo) (fun i _ => s.length - (intOf i).toNat)
 case atStart => exact ⟨0, by omega, rfl, rfl⟩
 case round =>
  obtain ⟨k, hk, rfl, rfl⟩ := hrel
  by_cases hlt : k < s.length
  ·have hki : (k : Int) < ((bs s).size : Int) := by rw [hsz]; omega
   have hlk : (bs s)[k]'(by rw [hsz]; exact hlt) = s[k] := rfl
   have HS := hI (sign_any s[k] wr)
   have HK3 := hI (HK1.out k hlt)
   by_cases hkA : k < A.length
   ·have hn := HK3.out hkA
    unfold nmC at hn
    clear HK3
    have HC := hI hn
    cases hs : sgnB s[k]
    ·rw [hs] at HS hn
     have h58 : ((s[k].toNat : Int) == 58) = true := by
      have : s[k] = 58 := by simpa using hn
      rw [this]
      rfl
     clear hn hs HC
     go_wp2_with (go_at_call 195; refine HS.out.mono ?_; rintro e w1 ⟨rfl, rfl⟩)
     go_roundw
     case rel => exact ⟨k + 1, by omega, by go_num, trivial⟩
     case measure => simp [intOf]; omega
    ·rw [hs] at HS
     clear hn hs HC
     go_wp2_with (go_at_call 195; refine HS.out.mono ?_; rintro e w1 ⟨rfl, rfl⟩)
     go_roundw
     case rel => exact ⟨k + 1, by omega, by go_num, trivial⟩
     case measure => simp [intOf]; omega
   ·obtain rfl : k = A.length := by omega
    have hn := HK2.out hlt
    unfold nmC at hn
    rw [Bool.or_eq_false_iff] at hn
    rw [hn.1] at HS
    have h58 : ((s[A.length].toNat : Int) == 58) = false := by
     rw [beq_eq_false_iff_ne]
     have := beq_eq_false_iff_ne.1 hn.2
     intro e
     exact this (UInt8.toNat_inj.1 (by
      have : (58 : UInt8).toNat = 58 := rfl
      omega))
    clear hn HK3
    go_wp2_with (go_at_call 195; refine HS.out.mono ?_; rintro e w1 ⟨rfl, rfl⟩)
    refine (HN.out _ HLX.out.lib).mono ?_
    rintro e w2 ⟨rfl, hb2⟩
    have HF := hI (xfail_n w2 E (HLX.out.errs.below hb2))
    have HR2 := hI (HRB.out.below hb2 HRB.out.lt)
    have HB2 := hI (HBB.out.trans (But.of_below hb2))
    clear hb2
    go_wp2_with (go_at_call 89; refine HF.out.mono ?_; rintro e w3 ⟨rfl, rfl⟩)
    exact ⟨rfl, rfl, HB2.out, _, HR2.out⟩
  ·obtain rfl : k = A.length := by
    have := HLE.out
    omega
   go_wp2_with fail
   refine (HN.out _ HLX.out.lib).mono ?_
   rintro e w2 ⟨rfl, hb2⟩
   have HF := hI (xfail_n w2 E (HLX.out.errs.below hb2))
   have HR2 := hI (HRB.out.below hb2 HRB.out.lt)
   have HB2 := hI (HBB.out.trans (But.of_below hb2))
   clear hb2
   go_wp2_with (go_at_call 89; refine HF.out.mono ?_; rintro e w3 ⟨rfl, rfl⟩)
   exact ⟨rfl, rfl, HB2.out, _, HR2.out⟩
end
section
set_option maxHeartbeats 4000000
set_option maxRecDepth 100000
open Go.RowKit
attribute [local go_sem] bs_toList
theorem enc_bs {n : Nat} (h : mayB n = true) : Utf8.encode (n : Int) = bs (Lib.encodeRune (n : Int)) := by
 have hv : (n < 55296 ∨ (57343 < n ∧ n ≤ 1114111)) := by
  have := mayB_I n
  rw [h] at this
  split at this
  ·omega
  ·split at this
   ·cases this
   ·have := this.symm
    simp only [Bool.or_eq_true, bA, decide_eq_true_eq] at this
    omega
 have hva : Utf8.valid (n : Int) = true := by
  rw [validRune_eq]
  unfold validRune
  exact decide_eq_true (by omega)
 unfold Utf8.encode Lib.encodeRune
 rw [hva]
 simp only [if_true, Int.toNat_natCast]
 by_cases h1 : n < 128
 ·rw [if_pos h1, Lib.encodeRuneZ_one (by omega) (by omega)]
  simp [bs]
 ·rw [if_neg h1]
  by_cases h2 : n < 2048
  ·rw [if_pos h2, Lib.encodeRuneZ_two (by omega) (by omega)]
   have e1 : ((192 : Int) + (n : Int) / 64).toNat = 192 + n / 64 := by omega
   have e2 : ((128 : Int) + (n : Int) % 64).toNat = 128 + n % 64 := by omega
   simp only [List.map_cons, List.map_nil, e1, e2, bs]
  ·rw [if_neg h2]
   by_cases h3 : n < 65536
   ·rw [if_pos h3, Lib.encodeRuneZ_three (by omega)]
    have e1 : ((224 : Int) + (n : Int) / 4096).toNat = 224 + n / 4096 := by omega
    have e2 : ((128 : Int) + (n : Int) / 64 % 64).toNat = 128 + n / 64 % 64 := by omega
    have e3 : ((128 : Int) + (n : Int) % 64).toNat = 128 + n % 64 := by omega
    simp only [List.map_cons, List.map_nil, e1, e2, e3, bs]
   ·rw [if_neg h3, Lib.encodeRuneZ_four (by omega) (by omega)]
    have e1 : ((240 : Int) + (n : Int) / 262144).toNat = 240 + n / 262144 := by omega
    have e2 : ((128 : Int) + (n : Int) / 4096 % 64).toNat = 128 + n / 4096 % 64 := by omega
    have e3 : ((128 : Int) + (n : Int) / 64 % 64).toNat = 128 + n / 64 % 64 := by omega
    have e4 : ((128 : Int) + (n : Int) % 64).toNat = 128 + n % 64 := by omega
    simp only [List.map_cons, List.map_nil, e1, e2, e3, e4, bs]
theorem may_neg (z : Int) (h : z < 0) (w : World) : Calls pG 173 #[.int .i32 z] w fun e w' => e = T (.bool false) ∧ w' = w := by
 have g1 : decide (z < 32) = true := decide_eq_true (by omega)
 have h2 : (z == 9) = false := by rw [beq_eq_false_iff_ne]; omega
 have h3 : (z == 10) = false := by rw [beq_eq_false_iff_ne]; omega
 have h4 : (z == 13) = false := by rw [beq_eq_false_iff_ne]; omega
 clear h
 go_enter Tryz.func173, Tryz.ntmps173
 go_wp2_with fail
 go_ret
 exact ⟨rfl, rfl⟩
theorem may_i32 (n : Nat) (h : n < 4294967296) (w : World) : Calls pG 173 #[.int .i32 (wrap32 (n : Int))] w fun e w' => e = T (.bool (mayB n)) ∧ w' = w := by
 by_cases hn : n < 2147483648
 ·have : wrap32 (n : Int) = (n : Int) := by
   unfold wrap32
   omega
  rw [this]
  exact may_any n w
 ·have hz : wrap32 (n : Int) < 0 := by
   unfold wrap32
   omega
  have hm : mayB n = false := by
   rw [mayB_I, if_neg (by omega)]
   split
   ·rfl
   ·simp only [Bool.or_eq_false_iff, Bool.and_eq_false_iff, decide_eq_false_iff_not]
    omega
  rw [hm]
  exact may_neg _ hz w
def digsL : List UInt8 := [48, 49, 50, 51, 52, 53, 54, 55, 56, 57, 97, 98, 99, 100, 101, 102]
theorem dig_idx (c : UInt8) : Lib.indexByte digsL c = match digF c with | some d => (d : Int) | none => -1 := by
 have h : ∀ n : Fin 256, Lib.indexByte digsL (UInt8.ofNat n.val) = match digF (UInt8.ofNat n.val) with | some d => (d : Int) | none => -1 := by decide +kernel
 have := h ⟨c.toNat, c.toNat_lt⟩
 simpa using this
theorem dig_lt {c : UInt8} {d : Nat} (h : digF c = some d) : d < 16 := by
 unfold digF at h
 split at h
 ·cases h; omega
 ·split at h
  ·cases h; omega
  ·cases h
def RefG (E : Nat → Addr) (o : Option (List UInt8)) (w : World) (e : Ending) (w' : World) : Prop :=
 w' = w ∧ match o with | some t => e = T (V (bs t)) | none => e = .panicked (panE E 3)
theorem cutP_y (c : UInt8) (u : List UInt8) (w : World) : Calls pG 159 #[V (bs (c :: u)), V ⟨#[c]⟩] w fun e w' => e = T (.tuple #[V (bs u), .bool true]) ∧ w' = w := by
 have h := Tryz.strings_CutPrefix (bs (c :: u)) ⟨#[c]⟩ w
 have e1 : Lib.hasPrefix (c :: u) [c] = true := by unfold Lib.hasPrefix; simp
 have e2 : Lib.trimPrefix (c :: u) [c] = u := by unfold Lib.trimPrefix; rw [if_pos e1]; rfl
 rw [show (bs (c :: u)).data.toList = c :: u by simp [bs], show (⟨#[c]⟩ : ByteArray).data.toList = [c] from rfl, e1, e2, bs_arr] at h
 exact h
theorem cutP_n (c : UInt8) (s : List UInt8) (hs : ∀ u, s ≠ c :: u) (w : World) : Calls pG 159 #[V (bs s), V ⟨#[c]⟩] w fun e w' => e = T (.tuple #[V (bs s), .bool false]) ∧ w' = w := by
 have h := Tryz.strings_CutPrefix (bs s) ⟨#[c]⟩ w
 have e1 : Lib.hasPrefix s [c] = false := by
  unfold Lib.hasPrefix
  cases s with
  | nil => rfl
  | cons x u =>
   rw [List.isPrefixOf_cons_cons]
   have : (c == x) = false := by rw [beq_eq_false_iff_ne]; rintro rfl; exact hs u rfl
   rw [this]
   rfl
 have e2 : Lib.trimPrefix s [c] = s := by unfold Lib.trimPrefix; rw [if_neg (by rw [e1]; simp)]
 rw [show (bs s).data.toList = s by simp [bs], show (⟨#[c]⟩ : ByteArray).data.toList = [c] from rfl, e1, e2, bs_arr] at h
 exact h
theorem idx_dig (c : UInt8) (w : World) : Calls pG 260 #[V ⟨#[48, 49, 50, 51, 52, 53, 54, 55, 56, 57, 97, 98, 99, 100, 101, 102]⟩, .int .u8 c.toNat] w fun e w' => e = T (.int .i64 (match digF c with | some d => (d : Int) | none => -1)) ∧ w' = w := by
 have h := Tryz.strings_IndexByte ⟨#[48, 49, 50, 51, 52, 53, 54, 55, 56, 57, 97, 98, 99, 100, 101, 102]⟩ (c.toNat : Int) w
 rw [show (⟨#[48, 49, 50, 51, 52, 53, 54, 55, 56, 57, 97, 98, 99, 100, 101, 102]⟩ : ByteArray).data.toList = digsL from rfl, show ((c.toNat : Int)).toNat.toUInt8 = c by simp, dig_idx] at h
 exact h
theorem ref_any (s : List UInt8) (hs : s.length ≤ 1000000) (w : World) (E : Nat → Addr) (he : Errs w E) : Calls pG 236 #[V (bs s)] w (RefG E (refF s) w) := by
 have HFY := hI (fun w => xfail_y w)
 have HFN := hI (xfail_n w E he)
 have HNM := hI (named_any s w)
 obtain ⟨O, ho⟩ : ∃ O, refF s = O := ⟨_, rfl⟩
 rw [ho]
 unfold refF at ho
 cases hnm : namedF s with
 | some t =>
  rw [hnm] at HNM ho
  obtain rfl : O = some t := ho.symm
  clear hnm he ho
  go_enter Tryz.func236, Tryz.ntmps236
  go_wp2_with (go_at_call 259; refine HNM.out.mono ?_; rintro e w1 ⟨rfl, rfl⟩)
  go_ret
  exact ⟨rfl, rfl⟩
 | none =>
  rw [hnm] at HNM ho
  dsimp only at ho
  clear hnm he
  by_cases hp : ∃ u, s = 35 :: u
  rotate_left 1
  ·have HC := hI (cutP_n 35 s (fun u e => hp ⟨u, e⟩) w)
   have HO := hI (show O = none by
    rw [← ho]
    cases s with
    | nil => rfl
    | cons c u =>
     by_cases hc : c = 35
     ·exact absurd ⟨u, by rw [hc]⟩ hp
     ·split
      ·rename_i e; injection e with e _; exact absurd e hc
      ·rename_i e; injection e with e _; exact absurd e hc
      ·rfl)
   clear hp ho
   go_enter Tryz.func236, Tryz.ntmps236
   go_wp2_with (first | (go_at_call 259; refine HNM.out.mono ?_; rintro e w1 ⟨rfl, rfl⟩) | (go_at_call 159; refine HC.out.mono ?_; rintro e w2 ⟨rfl, rfl⟩) | (go_at_call 89; refine HFN.out.mono ?_; rintro e w3 ⟨rfl, rfl⟩))
   exact ⟨rfl, rfl, by rw [HO.out]⟩
  obtain ⟨u, rfl⟩ := hp
  have HC := hI (cutP_y 35 u w)
  by_cases hx : ∃ t, u = 120 :: t
  ·obtain ⟨t, rfl⟩ := hx
   have HC2 := hI (cutP_y 120 t w)
   have ho : numR 16 t = O := ho
   have HO := hI ho
   clear ho
   by_cases h0 : t = []
   ·have hi : (bs t).toList.isEmpty = true := by rw [bs_toList, h0]; rfl
    have hi2 : t.isEmpty = true := by rw [h0]; rfl
    have HO2 := hI (show O = none by rw [← HO.out]; unfold numR; rw [if_pos (.inl h0)])
    clear h0 HO
    go_enter Tryz.func236, Tryz.ntmps236
    go_wp2_with (first | (go_at_call 259; refine HNM.out.mono ?_; rintro e w1 ⟨rfl, rfl⟩) | (go_at_call 159; refine HC.out.mono ?_; clear HC; rintro e w2 ⟨rfl, rfl⟩) | (go_at_call 159; refine HC2.out.mono ?_; rintro e w3 ⟨rfl, rfl⟩) | (go_at_call 89; refine (HFY.out _).mono ?_; rintro e w4 ⟨rfl, rfl⟩) | (go_at_call 89; refine HFN.out.mono ?_; rintro e w5 ⟨rfl, rfl⟩))
    exact ⟨rfl, rfl, by rw [HO2.out]⟩
   have hi : (bs t).toList.isEmpty = false := by
    rw [bs_toList]
    cases t with
    | nil => exact absurd rfl h0
    | cons c t => rfl
   have hi2 : t.isEmpty = false := by rw [← hi, bs_toList]
   have hz := bs_size t
   by_cases h8 : t.length ≤ 8
   rotate_left 1
   ·have g8 : decide ((t.length : Int) ≤ 8) = false := decide_eq_false (by omega)
    have HO2 := hI (show O = none by rw [← HO.out]; unfold numR; rw [if_pos (.inr (by omega))])
    clear h0 HO h8
    go_enter Tryz.func236, Tryz.ntmps236
    go_wp2_with (first | (go_at_call 259; refine HNM.out.mono ?_; rintro e w1 ⟨rfl, rfl⟩) | (go_at_call 159; refine HC.out.mono ?_; clear HC; rintro e w2 ⟨rfl, rfl⟩) | (go_at_call 159; refine HC2.out.mono ?_; rintro e w3 ⟨rfl, rfl⟩) | (go_at_call 89; refine (HFY.out _).mono ?_; rintro e w4 ⟨rfl, rfl⟩) | (go_at_call 89; refine HFN.out.mono ?_; rintro e w5 ⟨rfl, rfl⟩))
    exact ⟨rfl, rfl, by rw [HO2.out]⟩
   have g8 : decide ((t.length : Int) ≤ 8) = true := decide_eq_true (by omega)
   have HO2 := hI (show ((numGo 16 0 t).bind fun n => if mayB n = true then some (Lib.encodeRune (n : Int)) else none) = O by rw [← HO.out]; unfold numR; rw [if_neg (by intro h; rcases h with h | h; exact h0 h; omega)])
   clear HO h0
   go_enter Tryz.func236, Tryz.ntmps236
   go_wp2_with (first | (go_at_call 259; refine HNM.out.mono ?_; rintro e w1 ⟨rfl, rfl⟩) | (go_at_call 159; refine HC.out.mono ?_; clear HC; rintro e w2 ⟨rfl, rfl⟩) | (go_at_call 159; refine HC2.out.mono ?_; rintro e w3 ⟨rfl, rfl⟩) | (go_at_call 89; refine (HFY.out _).mono ?_; rintro e w4 ⟨rfl, rfl⟩) | (go_at_call 89; refine HFN.out.mono ?_; rintro e w5 ⟨rfl, rfl⟩))
   clear hi hi2 g8
   obtain ⟨wo, rfl⟩ : ∃ wo, wo = w4 := ⟨_, rfl⟩
   go_loopw [44, 10] (fun i v wr => ∃ k n : Nat, k ≤ t.length ∧ i = .int .i64 k ∧ v = .int .i64 n ∧ n < 16 ^ k ∧ ((numGo 16 n (t.drop k)).bind fun n => if mayB n = true then some (Lib.encodeRune (n : Int)) else none) = O ∧ wr = wo) (fun i _ _ => t.length - (intOf i).toNat)
   case atStart => exact ⟨0, 0, by omega, rfl, rfl, by decide, HO2.out, rfl⟩
   case round =>
    obtain ⟨k, n, hk, rfl, rfl, hn, ho, rfl⟩ := hrel
    have hn32 : n < 4294967296 := by
     have : 16 ^ k ≤ 16 ^ 8 := Nat.pow_le_pow_right (by omega) (by omega)
     have e : (16 : Nat) ^ 8 = 4294967296 := by decide
     omega
    by_cases hlt : k < t.length
    ·rw [List.drop_eq_getElem_cons hlt] at ho
     have hki : (k : Int) < ((bs t).size : Int) := by rw [hz]; omega
     have hlk : (bs t)[k]'(by rw [hz]; exact hlt) = t[k] := rfl
     have HL := hI (lower_any t[k] wr)
     have HI := hI (idx_dig (lowF t[k]) wr)
     unfold numGo at ho
     cases hd : digF (lowF t[k]) with
     | none =>
      rw [hd] at HI ho
      have HO3 := hI (show O = none from ho.symm)
      clear hd ho hn
      go_wp2_with (first | (go_at_call 261; refine HL.out.mono ?_; rintro e w1 ⟨rfl, rfl⟩) | (go_at_call 260; refine HI.out.mono ?_; rintro e w2 ⟨rfl, rfl⟩) | (go_at_call 89; refine HFN.out.mono ?_; rintro e w3 ⟨rfl, rfl⟩))
      exact ⟨rfl, rfl, by rw [HO3.out]⟩
     | some dg =>
      rw [hd] at HI ho
      dsimp only at HI ho
      have hd16 := dig_lt hd
      have hge : decide ((0 : Int) ≤ (dg : Int)) = true := decide_eq_true (by omega)
      clear hd
      by_cases hdb : dg < 16
      ·rw [if_pos hdb] at ho
       have hdb' : decide ((dg : Int) < 16) = true := decide_eq_true (by omega)
       have HO3 := hI ho
       have HN3 := hI (show n * 16 + dg < 16 ^ (k + 1) by rw [Nat.pow_succ]; omega)
       clear ho hn
       go_wp2_with (first | (go_at_call 261; refine HL.out.mono ?_; rintro e w1 ⟨rfl, rfl⟩) | (go_at_call 260; refine HI.out.mono ?_; rintro e w2 ⟨rfl, rfl⟩) | (go_at_call 89; refine (HFY.out _).mono ?_; rintro e w3 ⟨rfl, rfl⟩))
       go_roundw
       case rel => exact ⟨k + 1, n * 16 + dg, by omega, by go_num, by go_num, HN3.out, HO3.out, trivial⟩
       case measure => simp [intOf]; omega
      ·rw [if_neg hdb] at ho
       have hdb' : decide ((dg : Int) < 16) = false := decide_eq_false (by omega)
       have HO3 := hI (show O = none from ho.symm)
       clear ho hn
       go_wp2_with (first | (go_at_call 261; refine HL.out.mono ?_; rintro e w1 ⟨rfl, rfl⟩) | (go_at_call 260; refine HI.out.mono ?_; rintro e w2 ⟨rfl, rfl⟩) | (go_at_call 89; refine HFN.out.mono ?_; rintro e w3 ⟨rfl, rfl⟩))
       exact ⟨rfl, rfl, by rw [HO3.out]⟩
    ·obtain rfl : k = t.length := by omega
     rw [List.drop_of_length_le (nR _)] at ho
     unfold numGo at ho
     rw [oC] at ho
     have HM := hI (may_i32 n hn32 wr)
     cases hm : mayB n
     ·rw [hm] at HM ho
      have HO3 := hI (show O = none from ho.symm)
      clear hm ho hn
      go_wp2_with (first | (go_at_call 173; refine HM.out.mono ?_; rintro e w1 ⟨rfl, rfl⟩) | (go_at_call 89; refine HFN.out.mono ?_; rintro e w3 ⟨rfl, rfl⟩))
      exact ⟨rfl, rfl, by rw [HO3.out]⟩
     ·rw [hm] at HM ho
      have HO3 := hI (show O = some _ from ho.symm)
      have hni : wrap32 (n : Int) = (n : Int) := by
       have := mayB_I n
       rw [hm] at this
       have hle : n ≤ 1114111 := by
        split at this
        ·omega
        ·split at this
         ·cases this
         ·have := this.symm
          simp only [Bool.or_eq_true, bA, decide_eq_true_eq] at this
          omega
       unfold wrap32
       omega
      rw [hni] at HM
      have hen := enc_bs hm
      clear hm ho hn
      go_wp2_with (first | (go_at_call 173; refine HM.out.mono ?_; rintro e w1 ⟨rfl, rfl⟩) | (go_at_call 89; refine (HFY.out _).mono ?_; rintro e w3 ⟨rfl, rfl⟩))
      go_ret
      exact ⟨rfl, by rw [HO3.out] <;> rfl⟩
  ·have HC2 := hI (cutP_n 120 u (fun t e => hx ⟨t, e⟩) w)
   have ho : numR 10 u = O := by
    rw [← ho]
    split
    ·rename_i e
     injection e with _ e
     exact absurd ⟨_, e⟩ hx
    ·rename_i e
     injection e with _ e
     rw [e]
    ·rename_i h1 h2
     exact absurd rfl (h2 u)
   obtain ⟨t, rfl⟩ : ∃ t, t = u := ⟨_, rfl⟩
   have HO := hI ho
   clear ho
   by_cases h0 : t = []
   ·have hi : (bs t).toList.isEmpty = true := by rw [bs_toList, h0]; rfl
    have hi2 : t.isEmpty = true := by rw [h0]; rfl
    have HO2 := hI (show O = none by rw [← HO.out]; unfold numR; rw [if_pos (.inl h0)])
    clear h0 HO
    go_enter Tryz.func236, Tryz.ntmps236
    go_wp2_with (first | (go_at_call 259; refine HNM.out.mono ?_; rintro e w1 ⟨rfl, rfl⟩) | (go_at_call 159; refine HC.out.mono ?_; clear HC; rintro e w2 ⟨rfl, rfl⟩) | (go_at_call 159; refine HC2.out.mono ?_; rintro e w3 ⟨rfl, rfl⟩) | (go_at_call 89; refine (HFY.out _).mono ?_; rintro e w4 ⟨rfl, rfl⟩) | (go_at_call 89; refine HFN.out.mono ?_; rintro e w5 ⟨rfl, rfl⟩))
    exact ⟨rfl, rfl, by rw [HO2.out]⟩
   have hi : (bs t).toList.isEmpty = false := by
    rw [bs_toList]
    cases t with
    | nil => exact absurd rfl h0
    | cons c t => rfl
   have hi2 : t.isEmpty = false := by rw [← hi, bs_toList]
   have hz := bs_size t
   by_cases h8 : t.length ≤ 8
   rotate_left 1
   ·have g8 : decide ((t.length : Int) ≤ 8) = false := decide_eq_false (by omega)
    have HO2 := hI (show O = none by rw [← HO.out]; unfold numR; rw [if_pos (.inr (by omega))])
    clear h0 HO h8
    go_enter Tryz.func236, Tryz.ntmps236
    go_wp2_with (first | (go_at_call 259; refine HNM.out.mono ?_; rintro e w1 ⟨rfl, rfl⟩) | (go_at_call 159; refine HC.out.mono ?_; clear HC; rintro e w2 ⟨rfl, rfl⟩) | (go_at_call 159; refine HC2.out.mono ?_; rintro e w3 ⟨rfl, rfl⟩) | (go_at_call 89; refine (HFY.out _).mono ?_; rintro e w4 ⟨rfl, rfl⟩) | (go_at_call 89; refine HFN.out.mono ?_; rintro e w5 ⟨rfl, rfl⟩))
    exact ⟨rfl, rfl, by rw [HO2.out]⟩
   have g8 : decide ((t.length : Int) ≤ 8) = true := decide_eq_true (by omega)
   have HO2 := hI (show ((numGo 10 0 t).bind fun n => if mayB n = true then some (Lib.encodeRune (n : Int)) else none) = O by rw [← HO.out]; unfold numR; rw [if_neg (by intro h; rcases h with h | h; exact h0 h; omega)])
   clear HO h0
   go_enter Tryz.func236, Tryz.ntmps236
   go_wp2_with (first | (go_at_call 259; refine HNM.out.mono ?_; rintro e w1 ⟨rfl, rfl⟩) | (go_at_call 159; refine HC.out.mono ?_; clear HC; rintro e w2 ⟨rfl, rfl⟩) | (go_at_call 159; refine HC2.out.mono ?_; rintro e w3 ⟨rfl, rfl⟩) | (go_at_call 89; refine (HFY.out _).mono ?_; rintro e w4 ⟨rfl, rfl⟩) | (go_at_call 89; refine HFN.out.mono ?_; rintro e w5 ⟨rfl, rfl⟩))
   clear hi hi2 g8
   obtain ⟨wo, rfl⟩ : ∃ wo, wo = w4 := ⟨_, rfl⟩
   go_loopw [44, 10] (fun i v wr => ∃ k n : Nat, k ≤ t.length ∧ i = .int .i64 k ∧ v = .int .i64 n ∧ n < 16 ^ k ∧ ((numGo 10 n (t.drop k)).bind fun n => if mayB n = true then some (Lib.encodeRune (n : Int)) else none) = O ∧ wr = wo) (fun i _ _ => t.length - (intOf i).toNat)
   case atStart => exact ⟨0, 0, by omega, rfl, rfl, by decide, HO2.out, rfl⟩
   case round =>
    obtain ⟨k, n, hk, rfl, rfl, hn, ho, rfl⟩ := hrel
    have hn32 : n < 4294967296 := by
     have : 16 ^ k ≤ 16 ^ 8 := Nat.pow_le_pow_right (by omega) (by omega)
     have e : (16 : Nat) ^ 8 = 4294967296 := by decide
     omega
    by_cases hlt : k < t.length
    ·rw [List.drop_eq_getElem_cons hlt] at ho
     have hki : (k : Int) < ((bs t).size : Int) := by rw [hz]; omega
     have hlk : (bs t)[k]'(by rw [hz]; exact hlt) = t[k] := rfl
     have HL := hI (lower_any t[k] wr)
     have HI := hI (idx_dig (lowF t[k]) wr)
     unfold numGo at ho
     cases hd : digF (lowF t[k]) with
     | none =>
      rw [hd] at HI ho
      have HO3 := hI (show O = none from ho.symm)
      clear hd ho hn
      go_wp2_with (first | (go_at_call 261; refine HL.out.mono ?_; rintro e w1 ⟨rfl, rfl⟩) | (go_at_call 260; refine HI.out.mono ?_; rintro e w2 ⟨rfl, rfl⟩) | (go_at_call 89; refine HFN.out.mono ?_; rintro e w3 ⟨rfl, rfl⟩))
      exact ⟨rfl, rfl, by rw [HO3.out]⟩
     | some dg =>
      rw [hd] at HI ho
      dsimp only at HI ho
      have hd16 := dig_lt hd
      have hge : decide ((0 : Int) ≤ (dg : Int)) = true := decide_eq_true (by omega)
      clear hd
      by_cases hdb : dg < 10
      ·rw [if_pos hdb] at ho
       have hdb' : decide ((dg : Int) < 10) = true := decide_eq_true (by omega)
       have HO3 := hI ho
       have HN3 := hI (show n * 10 + dg < 16 ^ (k + 1) by rw [Nat.pow_succ]; omega)
       clear ho hn
       go_wp2_with (first | (go_at_call 261; refine HL.out.mono ?_; rintro e w1 ⟨rfl, rfl⟩) | (go_at_call 260; refine HI.out.mono ?_; rintro e w2 ⟨rfl, rfl⟩) | (go_at_call 89; refine (HFY.out _).mono ?_; rintro e w3 ⟨rfl, rfl⟩))
       go_roundw
       case rel => exact ⟨k + 1, n * 10 + dg, by omega, by go_num, by go_num, HN3.out, HO3.out, trivial⟩
       case measure => simp [intOf]; omega
      ·rw [if_neg hdb] at ho
       have hdb' : decide ((dg : Int) < 10) = false := decide_eq_false (by omega)
       have HO3 := hI (show O = none from ho.symm)
       clear ho hn
       go_wp2_with (first | (go_at_call 261; refine HL.out.mono ?_; rintro e w1 ⟨rfl, rfl⟩) | (go_at_call 260; refine HI.out.mono ?_; rintro e w2 ⟨rfl, rfl⟩) | (go_at_call 89; refine HFN.out.mono ?_; rintro e w3 ⟨rfl, rfl⟩))
       exact ⟨rfl, rfl, by rw [HO3.out]⟩
    ·obtain rfl : k = t.length := by omega
     rw [List.drop_of_length_le (nR _)] at ho
     unfold numGo at ho
     rw [oC] at ho
     have HM := hI (may_i32 n hn32 wr)
     cases hm : mayB n
     ·rw [hm] at HM ho
      have HO3 := hI (show O = none from ho.symm)
      clear hm ho hn
      go_wp2_with (first | (go_at_call 173; refine HM.out.mono ?_; rintro e w1 ⟨rfl, rfl⟩) | (go_at_call 89; refine HFN.out.mono ?_; rintro e w3 ⟨rfl, rfl⟩))
      exact ⟨rfl, rfl, by rw [HO3.out]⟩
     ·rw [hm] at HM ho
      have HO3 := hI (show O = some _ from ho.symm)
      have hni : wrap32 (n : Int) = (n : Int) := by
       have := mayB_I n
       rw [hm] at this
       have hle : n ≤ 1114111 := by
        split at this
        ·omega
        ·split at this
         ·cases this
         ·have := this.symm
          simp only [Bool.or_eq_true, bA, decide_eq_true_eq] at this
          omega
       unfold wrap32
       omega
      rw [hni] at HM
      have hen := enc_bs hm
      clear hm ho hn
      go_wp2_with (first | (go_at_call 173; refine HM.out.mono ?_; rintro e w1 ⟨rfl, rfl⟩) | (go_at_call 89; refine (HFY.out _).mono ?_; rintro e w3 ⟨rfl, rfl⟩))
      go_ret
      exact ⟨rfl, by rw [HO3.out] <;> rfl⟩
end
end Go.Proofs.YthboiahdheehkaaGreatDoor
