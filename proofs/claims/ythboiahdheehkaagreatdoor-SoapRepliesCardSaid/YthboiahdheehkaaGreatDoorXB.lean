/- XmlRG -/
import Derived.Test.YthboiahdheehkaaGreatDoorXA
import Derived.Test.YthboiahdheehkaaGreatDoorPC
import Derived.Test.YthboiahdheehkaaGreatDoorPE
open List renaming length_append → lF, length_cons → lH, contains_iff_mem → lO
open Option renaming bind_eq_some_iff → oA, bind_some → oC
open Nat renaming le_refl → nR
open Go.Proofs.Tryz renaming prog → pG
open Go.Value renaming string → V
open Go.Ending renaming returned → T
open Go.Obj renaming cells → B
namespace Go.Proofs.YthboiahdheehkaaGreatDoor
section
set_option maxHeartbeats 4000000
set_option maxRecDepth 20000
open Go.RowKit
theorem encZ_len (r : Int) : (Lib.encodeRune r).length ≤ 4 := by
 unfold Lib.encodeRune
 rw [List.length_map]
 exact (Lib.encodeRuneZ_length r).2
theorem numR_len {base : Nat} {s t : List UInt8} (h : numR base s = some t) : t.length ≤ 4 := by
 unfold numR at h
 split at h
 ·cases h
 ·obtain ⟨n, _, h⟩ := oA.1 h
  split at h
  ·cases h; exact encZ_len _
  ·cases h
theorem refF_len {s t : List UInt8} (h : refF s = some t) : t.length ≤ 4 := by
 unfold refF at h
 cases hn : namedF s with
 | some u =>
  rw [hn] at h
  cases h
  unfold namedF at hn
  (repeat' split at hn) <;> cases hn <;> simp
 | none =>
  rw [hn] at h
  dsimp only at h
  split at h
  ·exact numR_len h
  ·exact numR_len h
  ·cases h
def TxG (E : Nat → Addr) (o : Option (List UInt8)) (w : World) (e : Ending) (w' : World) : Prop :=
 Below w.heap.size w w' ∧ match o with | some t => e = T (V (bs t)) | none => e = .panicked (panE E 3)
theorem xcut_at (c : UInt8) (l : List UInt8) (hm : l.length ≤ 1000000) (w : World) (hg : LibG w) : Calls pG 168 #[V (bs l), V ⟨#[c]⟩] w (Gives w (.tuple (match cutB c l with | none => #[V (bs l), V (bs []), .bool false] | some (a, b) => #[V (bs a), V (bs b), .bool true]))) := by
 obtain ⟨m, hg⟩ := hg.cut
 have HC := Tryz.strings_Cut (bs l) ⟨#[c]⟩ m w (by rw [bs_size]; omega) hg
 rw [show (bs l).data.toList = l from by simp [bs], show (⟨#[c]⟩ : ByteArray).data.toList = [c] from rfl, lib_cut] at HC
 refine HC.mono ?_
 rintro e w' ⟨rfl, n, rfl⟩
 refine ⟨?_, below_drewN w n⟩
 cases cutB c l with
 | none => rfl
 | some p => rfl
theorem rtxt_any (l : List UInt8) (hm : l.length ≤ 1000000) (w : World) (E : Nat → Addr) (hg : LibG w) (he : Errs w E) : Calls pG 200 #[V (bs l)] w (TxG E (textD l) w) := by
 have HSG := Lib.hid (signs_any l hm w hg)
 have HFY := Lib.hid (fun w => xfail_y w)
 have HG := Lib.hid hg
 have HE := Lib.hid he
 obtain ⟨O, hO⟩ : ∃ O, textD l = O := ⟨_, rfl⟩
 rw [hO]
 unfold textD at hO
 cases hs : sigB l with
 | false =>
  rw [hs] at HSG hO
  obtain rfl : O = none := hO.symm
  clear hs hO hg he
  go_enter Tryz.func200, Tryz.ntmps200
  go_wp2_with fail
  refine HSG.out.mono ?_
  rintro e w1 ⟨rfl, hb⟩
  have HFN := Lib.hid (xfail_n w1 E (HE.out.below hb))
  have HB := Lib.hid hb
  clear hb
  go_wp2_with (go_at_call 89; refine HFN.out.mono ?_; rintro e w2 ⟨rfl, rfl⟩)
  exact ⟨rfl, HB.out, rfl⟩
 | true =>
  rw [hs] at HSG hO
  have hO2 : textR l = O := hO
  have HO := Lib.hid hO2
  clear hs hO hg he hO2
  go_enter Tryz.func200, Tryz.ntmps200
  go_wp2_with fail
  refine HSG.out.mono ?_
  rintro e w1 ⟨rfl, hb⟩
  have HB1 := Lib.hid hb
  clear hb
  go_wp2_with (go_at_call 89; refine (HFY.out _).mono ?_; rintro e w2 ⟨rfl, rfl⟩)
  obtain ⟨w0, rfl⟩ : ∃ w0, w0 = w2 := ⟨_, rfl⟩
  have HM := Lib.hid hm
  clear hm
  go_loopw [0] (fun sv wr => ∃ cur acc : List UInt8, sv = V (bs cur) ∧ IsB 130 w0.heap.size w0.heap.size acc wr ∧ Below w0.heap.size w0 wr ∧ w0.heap.size < wr.heap.size ∧ (textR cur).map (acc ++ ·) = O ∧ acc.length + 4 * cur.length ≤ 4 * l.length) (fun sv _ => match sv with | .string s => s.size | _ => 0)
  case atStart =>
   refine ⟨l, [], rfl, Lib.IsBuilderF.of (Lib.fresh_isBuilder 130 5 w0), (Below.refl _ w0).alloc (nR _) _, by simp, ?_, by simp⟩
   rw [← HO.out]
   cases textR l <;> rfl
  case round =>
   obtain ⟨cur, acc, rfl, hI, hbw, hszw, hacc, hlen⟩ := hrel
   have HI := Lib.hid hI
   have HBW := Lib.hid hbw
   have HGr := HG.out.below (HB1.out.trans (hbw.mono HB1.out.size))
   have HEr := Lib.hid (HE.out.below (HB1.out.trans (hbw.mono HB1.out.size)))
   have hm := HM.out
   have HC := Lib.hid (xcut_at 38 cur (by omega) wr HGr)
   have HGR := Lib.hid HGr
   clear HGr hI hbw
   rw [textR_eq] at hacc
   cases hc : cutB 38 cur with
   | none =>
    rw [hc] at HC hacc
    dsimp only at HC hacc
    obtain rfl : O = some (acc ++ cur) := hacc.symm
    clear hc hacc
    go_wp2_with fail
    refine HC.out.mono ?_
    rintro e w3 ⟨rfl, hb3⟩
    have HW := Lib.hid (bwrite_any bty_own w0.heap.size w0.heap.size acc cur w3 (HI.out.below hb3) (by omega) (by have := hb3.size; omega))
    have HB3 := Lib.hid (HBW.out.trans (hb3.mono HBW.out.size))
    clear hb3
    go_wp2_with fail
    refine HW.out.mono ?_
    rintro e w4 ⟨rfl, g1, g2, g3⟩
    have HS := Lib.hid (bstring_any w0.heap.size w0.heap.size (acc ++ cur) w4 g1 (HB3.out.trans g2).size)
    have HB4 := Lib.hid (HB3.out.trans g2)
    clear g1 g2 g3
    go_wp2_with (go_at_call 71; refine HS.out.mono ?_; rintro e w5 ⟨rfl, b1⟩)
    go_ret
    have h := HB4.out.trans b1
    exact ⟨HB1.out.trans (h.mono HB1.out.size), rfl⟩
   | some p =>
    obtain ⟨a, b⟩ := p
    have hcl := cutB_len hc
    rw [hc] at HC hacc
    dsimp only at HC hacc
    clear hc
    go_wp2_with fail
    refine HC.out.mono ?_
    rintro e w3 ⟨rfl, hb3⟩
    have HW := Lib.hid (bwrite_any bty_own w0.heap.size w0.heap.size acc a w3 (HI.out.below hb3) (by omega) (by have := hb3.size; omega))
    have HB3 := Lib.hid (HBW.out.trans (hb3.mono HBW.out.size))
    have HGE := Lib.hid (fun w4 (h : Below w0.heap.size w3 w4) => (HB1.out.trans ((HB3.out.trans h).mono HB1.out.size)))
    clear hb3
    go_wp2_with fail
    refine HW.out.mono ?_
    rintro e w4 ⟨rfl, g1, g2, g3⟩
    have HI4 := Lib.hid g1
    have HB4 := Lib.hid (HB3.out.trans g2)
    have HW4 := Lib.hid (HB1.out.trans (HB4.out.mono HB1.out.size))
    have HC2 := Lib.hid (xcut_at 59 b (by omega) w4 (HG.out.below HW4.out))
    have hsz4 := g3
    clear g1 g2 g3 hsz4
    cases hc2 : cutB 59 b with
    | none =>
     rw [hc2] at HC2 hacc
     dsimp only at HC2 hacc
     obtain rfl : O = none := hacc.symm
     clear hc2 hacc
     go_wp2_with fail
     refine HC2.out.mono ?_
     rintro e w5 ⟨rfl, hb5⟩
     have HW5 := Lib.hid (HW4.out.trans (hb5.mono HW4.out.size))
     have HFN := Lib.hid (xfail_n w5 E (HE.out.below HW5.out))
     clear hb5
     go_wp2_with (go_at_call 89; refine HFN.out.mono ?_; rintro e w6 ⟨rfl, rfl⟩)
     exact ⟨rfl, HW5.out, rfl⟩
    | some q =>
     obtain ⟨nm, rest⟩ := q
     have hcl2 := cutB_len hc2
     rw [hc2] at HC2 hacc
     dsimp only at HC2 hacc
     clear hc2
     go_wp2_with fail
     refine HC2.out.mono ?_
     rintro e w5 ⟨rfl, hb5⟩
     have HW5 := Lib.hid (HW4.out.trans (hb5.mono HW4.out.size))
     have HB5 := Lib.hid (HB4.out.trans (hb5.mono HB4.out.size))
     have HI5 := Lib.hid (HI4.out.below hb5)
     have HRF := Lib.hid (ref_any nm (by omega) w5 E (HE.out.below HW5.out))
     clear hb5
     cases hr : refF nm with
     | none =>
      rw [hr] at HRF hacc
      obtain rfl : O = none := hacc.symm
      clear hr hacc
      go_wp2_with (first | (go_at_call 89; refine (HFY.out _).mono ?_; rintro e w6 ⟨rfl, rfl⟩) | (go_at_call 236; refine HRF.out.mono ?_; rintro e w7 ⟨rfl, rfl⟩))
      exact ⟨rfl, HW5.out, rfl⟩
     | some t =>
      have htl := refF_len hr
      rw [hr] at HRF hacc
      rw [oC, Option.map_map] at hacc
      have HA := Lib.hid hacc
      have HWT := Lib.hid (bwrite_any bty_own w0.heap.size w0.heap.size (acc ++ a) t w5 HI5.out (by rw [lF]; omega) HB5.out.size)
      clear hr hacc
      go_wp2_with (first | (go_at_call 89; refine (HFY.out _).mono ?_; rintro e w6 ⟨rfl, rfl⟩) | (go_at_call 236; refine HRF.out.mono ?_; rintro e w7 ⟨rfl, rfl⟩) | (go_at_call 175; refine HWT.out.mono ?_; rintro e w8 ⟨rfl, g1, g2, g3⟩))
      go_roundw
      case rel =>
       refine ⟨rest, acc ++ a ++ t, rfl, g1, HB5.out.trans g2, ?_, ?_, ?_⟩
       ·exact IsB.lt g1
       ·rw [← HA.out]
        congr 1
        funext x
        simp [List.append_assoc]
       ·simp only [lF]
        omega
      case measure =>
       simp [bs_size]
       omega
end
section
set_option maxHeartbeats 4000000
set_option maxRecDepth 20000
open Go.RowKit
attribute [local go_sem] bs_toList
theorem nameR_len {s a b : List UInt8} (h : nameR s = some (a, b)) : b.length ≤ s.length := by
 unfold nameR at h
 split at h
 ·cases h
  exact (List.dropWhile_sublist _).length_le
 ·cases h
theorem cutR_len : ∀ {t s u : List UInt8}, cutR t s = some u → u.length + t.length = s.length := by
 intro t s u h
 rw [cutR_has] at h
 split at h
 ·rename_i hp
  cases h
  unfold Lib.hasPrefix at hp
  have := (List.isPrefixOf_iff_prefix.1 hp).length_le
  rw [List.length_drop]
  omega
 ·cases h
theorem upR_len {p : UInt8 → Bool} {s a b : List UInt8} (h : upR p s = some (a, b)) : a.length + b.length = s.length := by
 unfold upR at h
 split at h
 ·cases h
  rw [← lF, List.takeWhile_append_dropWhile]
 ·cases h
theorem cutR_one (m : UInt8) (t : List UInt8) : cutR [m] (m :: t) = some t := by
 unfold cutR
 rw [if_pos rfl]
 rfl
theorem But.only1 {r g : Nat} {a b w : World} (h : But [r] w a) (ho : Only g a b) (hg : w.heap.size ≤ g) : But [r] w b :=
 ⟨ho.os.trans h.os, ho.tape.trans h.tape, ho.output.trans h.output, by rw [ho.size]; exact h.size, fun k hk hn => (ho.block k (by omega)).trans (h.block k hk hn)⟩
theorem rne (r g : Nat) (h : r ≠ g) : ([r] : List Nat).contains g = false := by
 simp only [List.contains_cons, List.contains_nil, Bool.or_false, beq_eq_false_iff_ne]
 exact fun e => h e.symm
def AtG (E : Nat → Addr) (r : Nat) (d : Int) (o : Option (List (List UInt8) × List UInt8)) (w : World) (e : Ending) (w' : World) : Prop :=
 But [r] w w' ∧ match o with
  | some (a, s) => ∃ x0 x1, a = [x0, x1] ∧ e = T (.agg #[V (bs x0), V (bs x1)]) ∧ Rr w' r s d
  | none => e = .panicked (panE E 3) ∧ ∃ s', Rr w' r s' d
theorem rattr_any (E : Nat → Addr) (r : Nat) (s : List UInt8) (d : Int) (w : World) (hx : LibX r w E) (hr : Rr w r s d) (hs : s.length ≤ 1000000) :
  Calls pG 196 #[.pointer (some ⟨r, 0, none⟩)] w (AtG E r d (attrR s) w) := by
 obtain ⟨O, hO⟩ : ∃ O, attrR s = O := ⟨_, rfl⟩
 rw [hO]
 unfold attrR at hO
 have hb := But.of_below (S := [r]) (below_alloc1 w (B #[V ⟨#[]⟩, V ⟨#[]⟩] 186))
 have HNE := Lib.hid (rne r w.heap.size (by have := hr.lt; omega))
 have HX0 := Lib.hid (hx.but hb)
 have HN0 := Lib.hid (Blk.new w 186 #[V ⟨#[]⟩, V ⟨#[]⟩])
 have HB0 := Lib.hid hb
 have HR0 := Lib.hid (hr.alloc (B #[V ⟨#[]⟩, V ⟨#[]⟩] 186))
 have HFY := Lib.hid (fun w => xfail_y w)
 clear hb hx hr
 go_enter Tryz.func196, Tryz.ntmps196
 go_wp2_with fail
 generalize w.alloc (B #[V ⟨#[]⟩, V ⟨#[]⟩] 186) = w0 at *
 cases h1 : nameR s with
 | none =>
  rw [h1] at hO
  obtain rfl : O = none := hO.symm
  refine (rname_n E w0 HX0.out HR0.out hs h1).mono ?_
  rintro e w1 ⟨rfl, hb, s', hr⟩
  exact ⟨rfl, HB0.out.trans hb, rfl, s', hr⟩
 | some p =>
  obtain ⟨nm, s1⟩ := p
  have l1 := nameR_len h1
  rw [h1, oC] at hO
  refine (rname_y E w0 HX0.out HR0.out hs h1).mono ?_
  rintro e w1 ⟨rfl, hr, hb⟩
  have HX1 := Lib.hid (HX0.out.but hb)
  have HN1 := Lib.hid (hb.blk HN0.out HNE.out)
  have HB1 := Lib.hid (HB0.out.trans hb)
  have HR1 := Lib.hid hr
  clear hb hr
  clear h1
  have l2 := blank_len s1
  have HO := Lib.hid hO
  clear hO
  go_wp2_with fail
  refine (rblank_any w1 HR1.out (by omega)).mono ?_
  rintro e w2 ⟨rfl, hr, hb⟩
  have HX2 := Lib.hid (HX1.out.but hb)
  have HN2 := Lib.hid (hb.blk HN1.out HNE.out)
  have HB2 := Lib.hid (HB1.out.trans hb)
  have HR2 := Lib.hid hr
  clear hb hr
  go_wp2_with fail
  have hO := HO.out
  clear HO
  generalize blankR s1 = s2 at *
  cases h2 : cutR [61] s2 with
  | none =>
   rw [h2] at hO
   obtain rfl : O = none := hO.symm
   refine (rcut_n w2 E HX2.out.errs HR2.out h2).mono ?_
   rintro e w3 ⟨rfl, rfl⟩
   exact ⟨rfl, HB2.out, rfl, _, HR2.out⟩
  | some s3 =>
   have l3 := cutR_len h2
   rw [h2, oC] at hO
   refine (rcut_y w2 HR2.out h2).mono ?_
   rintro e w3 ⟨rfl, hr, ho⟩
   have hb : But [r] w2 w3 := ⟨ho.os, ho.tape, ho.output, by rw [ho.size]; exact nR _, fun k hk hn => ho.block k (by rintro rfl; simp at hn)⟩
   clear ho
   have HX3 := Lib.hid (HX2.out.but hb)
   have HN3 := Lib.hid (hb.blk HN2.out HNE.out)
   have HB3 := Lib.hid (HB2.out.trans hb)
   have HR3 := Lib.hid hr
   clear hb hr
   clear h2
   have l4 := blank_len s3
   have HO := Lib.hid hO
   clear hO
   go_wp2_with fail
   refine (rblank_any w3 HR3.out (by simp at l3; omega)).mono ?_
   rintro e w4 ⟨rfl, hr, hb⟩
   have HX4 := Lib.hid (HX3.out.but hb)
   have HN4 := Lib.hid (hb.blk HN3.out HNE.out)
   have HB4 := Lib.hid (HB3.out.trans hb)
   have HR4 := Lib.hid hr
   clear hb hr
   have hO := HO.out
   clear HO
   simp only [lH, List.length_nil] at l3
   generalize blankR s3 = s4 at *
   have c4 := (HR4.out.cell 0).trans rfl
   cases s4 with
   | nil =>
    obtain rfl : O = none := hO.symm
    have hi : (bs []).toList.isEmpty = true := by rw [bs_toList]; rfl
    have HFN := Lib.hid (xfail_n w4 E HX4.out.errs)
    go_wp2_with (go_at_call 89; refine HFN.out.mono ?_; rintro e w5 ⟨rfl, rfl⟩)
    exact ⟨rfl, HB4.out, rfl, _, HR4.out⟩
   | cons m t =>
    have hi : (bs (m :: t)).toList.isEmpty = false := by rw [bs_toList]; rfl
    have hz := bs_size (m :: t)
    have hk0 : (0 : Int) < ((bs (m :: t)).size : Int) := by rw [hz, lH]; omega
    have hlk : (bs (m :: t))[0]'(by rw [hz, lH]; omega) = m := rfl
    dsimp only at hO
    rw [lH] at l4
    have HZ := Lib.hid hz
    have L4 := Lib.hid l4
    have HS := Lib.hid hs
    clear l4 hs
    by_cases hq : m = 34 ∨ m = 39
    rotate_left 1
    ·rw [if_neg hq] at hO
     obtain rfl : O = none := hO.symm
     have q1 : ((m.toNat : Int) == 34) = false := by
      rw [beq_eq_false_iff_ne]
      intro e
      exact hq (.inl (UInt8.toNat_inj.1 (by have : (34 : UInt8).toNat = 34 := rfl; omega)))
     have q2 : ((m.toNat : Int) == 39) = false := by
      rw [beq_eq_false_iff_ne]
      intro e
      exact hq (.inr (UInt8.toNat_inj.1 (by have : (39 : UInt8).toNat = 39 := rfl; omega)))
     have HFN := Lib.hid (xfail_n w4 E HX4.out.errs)
     clear hq
     go_wp2_with (go_at_call 89; refine HFN.out.mono ?_; rintro e w5 ⟨rfl, rfl⟩)
     exact ⟨rfl, HB4.out, rfl, _, HR4.out⟩
    rw [if_pos hq] at hO
    have hm128 : m.toNat < 128 := by rcases hq with rfl | rfl <;> decide
    have HU1 := Lib.hid (fun w => idx_mark m hm128 t (by have := L4.out; have := HS.out; omega) w)
    have s1 : ∀ w, (Instr.slice 9 (V (bs (m :: t))) none (some (.int .i64 1)) none).run pG w = .ok (V (bs [m])) w := fun w => run_str_to Tryz.underlying9 (m :: t) 1 (by simp) w
    have s2 : ∀ w, (Op.stringOp .add (bs [m]) ⟨#[60]⟩).run pG w = .ok (V ⟨#[m, 60]⟩) w := fun w => run_str_add (P := pG) w [m] [60] (by simp)
    have HQ := Lib.hid (show (((m.toNat : Int) == 34) = true ∨ ((m.toNat : Int) == 34) = false ∧ ((m.toNat : Int) == 39) = true) from by
     rcases hq with rfl | rfl
     ·exact .inl rfl
     ·exact .inr ⟨rfl, rfl⟩)
    clear hq hm128
    have HO := Lib.hid hO
    clear hO
    have HC5 := Lib.hid (rcut_y w4 HR4.out (cutR_one m t))
    rcases HQ.out with q1 | ⟨q1, q2⟩
    case inl =>
     go_wp2_with (go_at_call 89; refine (HFY.out _).mono ?_; rintro e w9 ⟨rfl, rfl⟩)
     clear hlk hi
     refine HC5.out.mono ?_
     rintro e w5 ⟨rfl, hr, ho⟩
     have hb : But [r] _ w5 := ⟨ho.os, ho.tape, ho.output, by rw [ho.size]; exact nR _, fun k hk hn => ho.block k (by rintro rfl; simp at hn)⟩
     clear ho
     have HX5 := Lib.hid (HX4.out.but hb)
     have HN5 := Lib.hid (hb.blk HN4.out HNE.out)
     have HB5 := Lib.hid (HB4.out.trans hb)
     have HR5 := Lib.hid hr
     clear hb hr
     clear c4 hk0
     go_wp2_with fail
     have hO := HO.out
     clear HO
     cases h3 : upR (fun c => c == m || c == 60) t with
     | none =>
      rw [h3] at hO
      obtain rfl : O = none := hO.symm
      refine (rupto_n (fun c => c == m || c == 60) ⟨#[m, 60]⟩ w5 E HX5.out.errs HR5.out HU1.out h3).mono ?_
      rintro e w6 ⟨rfl, hb⟩
      exact ⟨rfl, HB5.out.trans (But.of_below hb), rfl, _, HR5.out.below hb HR5.out.lt⟩
     | some p3 =>
      obtain ⟨v, s6⟩ := p3
      have l6 := upR_len h3
      rw [h3, oC] at hO
      refine (rupto_y (fun c => c == m || c == 60) ⟨#[m, 60]⟩ w5 HR5.out HU1.out h3).mono ?_
      rintro e w6 ⟨rfl, hr, hb⟩
      have HX6 := Lib.hid (HX5.out.but hb)
      have HN6 := Lib.hid (hb.blk HN5.out HNE.out)
      have HB6 := Lib.hid (HB5.out.trans hb)
      have HR6 := Lib.hid hr
      clear hb hr
      clear h3
      have HO := Lib.hid hO
      clear hO
      go_wp2_with fail
      have hO := HO.out
      clear HO
      cases h4 : cutR [m] s6 with
      | none =>
       rw [h4] at hO
       obtain rfl : O = none := hO.symm
       refine (rcut_n w6 E HX6.out.errs HR6.out h4).mono ?_
       rintro e w7 ⟨rfl, rfl⟩
       exact ⟨rfl, HB6.out, rfl, _, HR6.out⟩
      | some s7 =>
       rw [h4, oC] at hO
       refine (rcut_y w6 HR6.out h4).mono ?_
       rintro e w7 ⟨rfl, hr, ho⟩
       have hb : But [r] w6 w7 := ⟨ho.os, ho.tape, ho.output, by rw [ho.size]; exact nR _, fun k hk hn => ho.block k (by rintro rfl; simp at hn)⟩
       clear ho
       have HX7 := Lib.hid (HX6.out.but hb)
       have HN7 := Lib.hid (hb.blk HN6.out HNE.out)
       have HB7 := Lib.hid (HB6.out.trans hb)
       have HR7 := Lib.hid hr
       clear hb hr
       clear h4
       have HT := Lib.hid (rtxt_any v (by have := L4.out; have := HS.out; omega) w7 E HX7.out.lib HX7.out.errs)
       have HO := Lib.hid hO
       clear hO
       go_wp2_with fail
       refine HT.out.mono ?_
       have hO := HO.out
       clear HO
       cases h5 : textD v with
       | none =>
        rw [h5] at hO
        obtain rfl : O = none := hO.symm
        rintro e w8 ⟨hb, he⟩
        obtain rfl : e = .panicked (panE E 3) := he
        exact ⟨rfl, HB7.out.trans (But.of_below hb), rfl, _, HR7.out.below hb HR7.out.lt⟩
       | some u =>
        rw [h5, Option.map_some] at hO
        obtain rfl : O = some ([nm, u], s7) := hO.symm
        rintro e w8 ⟨hb, he⟩
        obtain rfl : e = T (V (bs u)) := he
        have hr := HR7.out.below hb HR7.out.lt
        have hn8 := HN7.out.below hb HN7.out.lt
        have HB8 := Lib.hid (HB7.out.trans (But.of_below hb))
        have HR8 := Lib.hid hr
        clear hb hr
        go_wp2_with (refine wpList_store (.tmp 2) (.tmp 54) 186 rfl rfl w.heap.size 0 _ _ #[V (bs nm), V (bs u)] rfl rfl hn8 ?s0 ?s1 ?s2 ?_)
        case s0 => kernel_rfl
        case s1 => simp [Value.oneCell']
        case s2 => simp
        intro w9 hb9 ho9
        rw [putCells_all #[V ⟨#[]⟩, V ⟨#[]⟩] #[V (bs nm), V (bs u)] rfl] at hb9
        obtain ⟨z0, z1, -⟩ := hb9.cc
        have HR9 := Lib.hid (ho9.blk HR8.out (fun e => by have := HNE.out; rw [e] at this; simp at this))
        have HB9 := Lib.hid (HB8.out.only1 ho9 (nR _))
        clear hb9 ho9 hn8
        go_wp2_with fail
        refine bodyPost_ret (v := .agg #[V (bs nm), V (bs u)]) (by simp [results, Tryz.results196, go_sem, z0, z1]) rfl ?_
        exact ⟨HB9.out, nm, u, rfl, rfl, HR9.out⟩
    case inr =>
     go_wp2_with (go_at_call 89; refine (HFY.out _).mono ?_; rintro e w9 ⟨rfl, rfl⟩)
     clear hlk hi
     refine HC5.out.mono ?_
     rintro e w5 ⟨rfl, hr, ho⟩
     have hb : But [r] _ w5 := ⟨ho.os, ho.tape, ho.output, by rw [ho.size]; exact nR _, fun k hk hn => ho.block k (by rintro rfl; simp at hn)⟩
     clear ho
     have HX5 := Lib.hid (HX4.out.but hb)
     have HN5 := Lib.hid (hb.blk HN4.out HNE.out)
     have HB5 := Lib.hid (HB4.out.trans hb)
     have HR5 := Lib.hid hr
     clear hb hr
     clear c4 hk0
     go_wp2_with fail
     have hO := HO.out
     clear HO
     cases h3 : upR (fun c => c == m || c == 60) t with
     | none =>
      rw [h3] at hO
      obtain rfl : O = none := hO.symm
      refine (rupto_n (fun c => c == m || c == 60) ⟨#[m, 60]⟩ w5 E HX5.out.errs HR5.out HU1.out h3).mono ?_
      rintro e w6 ⟨rfl, hb⟩
      exact ⟨rfl, HB5.out.trans (But.of_below hb), rfl, _, HR5.out.below hb HR5.out.lt⟩
     | some p3 =>
      obtain ⟨v, s6⟩ := p3
      have l6 := upR_len h3
      rw [h3, oC] at hO
      refine (rupto_y (fun c => c == m || c == 60) ⟨#[m, 60]⟩ w5 HR5.out HU1.out h3).mono ?_
      rintro e w6 ⟨rfl, hr, hb⟩
      have HX6 := Lib.hid (HX5.out.but hb)
      have HN6 := Lib.hid (hb.blk HN5.out HNE.out)
      have HB6 := Lib.hid (HB5.out.trans hb)
      have HR6 := Lib.hid hr
      clear hb hr
      clear h3
      have HO := Lib.hid hO
      clear hO
      go_wp2_with fail
      have hO := HO.out
      clear HO
      cases h4 : cutR [m] s6 with
      | none =>
       rw [h4] at hO
       obtain rfl : O = none := hO.symm
       refine (rcut_n w6 E HX6.out.errs HR6.out h4).mono ?_
       rintro e w7 ⟨rfl, rfl⟩
       exact ⟨rfl, HB6.out, rfl, _, HR6.out⟩
      | some s7 =>
       rw [h4, oC] at hO
       refine (rcut_y w6 HR6.out h4).mono ?_
       rintro e w7 ⟨rfl, hr, ho⟩
       have hb : But [r] w6 w7 := ⟨ho.os, ho.tape, ho.output, by rw [ho.size]; exact nR _, fun k hk hn => ho.block k (by rintro rfl; simp at hn)⟩
       clear ho
       have HX7 := Lib.hid (HX6.out.but hb)
       have HN7 := Lib.hid (hb.blk HN6.out HNE.out)
       have HB7 := Lib.hid (HB6.out.trans hb)
       have HR7 := Lib.hid hr
       clear hb hr
       clear h4
       have HT := Lib.hid (rtxt_any v (by have := L4.out; have := HS.out; omega) w7 E HX7.out.lib HX7.out.errs)
       have HO := Lib.hid hO
       clear hO
       go_wp2_with fail
       refine HT.out.mono ?_
       have hO := HO.out
       clear HO
       cases h5 : textD v with
       | none =>
        rw [h5] at hO
        obtain rfl : O = none := hO.symm
        rintro e w8 ⟨hb, he⟩
        obtain rfl : e = .panicked (panE E 3) := he
        exact ⟨rfl, HB7.out.trans (But.of_below hb), rfl, _, HR7.out.below hb HR7.out.lt⟩
       | some u =>
        rw [h5, Option.map_some] at hO
        obtain rfl : O = some ([nm, u], s7) := hO.symm
        rintro e w8 ⟨hb, he⟩
        obtain rfl : e = T (V (bs u)) := he
        have hr := HR7.out.below hb HR7.out.lt
        have hn8 := HN7.out.below hb HN7.out.lt
        have HB8 := Lib.hid (HB7.out.trans (But.of_below hb))
        have HR8 := Lib.hid hr
        clear hb hr
        go_wp2_with (refine wpList_store (.tmp 2) (.tmp 54) 186 rfl rfl w.heap.size 0 _ _ #[V (bs nm), V (bs u)] rfl rfl hn8 ?s0 ?s1 ?s2 ?_)
        case s0 => kernel_rfl
        case s1 => simp [Value.oneCell']
        case s2 => simp
        intro w9 hb9 ho9
        rw [putCells_all #[V ⟨#[]⟩, V ⟨#[]⟩] #[V (bs nm), V (bs u)] rfl] at hb9
        obtain ⟨z0, z1, -⟩ := hb9.cc
        have HR9 := Lib.hid (ho9.blk HR8.out (fun e => by have := HNE.out; rw [e] at this; simp at this))
        have HB9 := Lib.hid (HB8.out.only1 ho9 (nR _))
        clear hb9 ho9 hn8
        go_wp2_with fail
        refine bodyPost_ret (v := .agg #[V (bs nm), V (bs u)]) (by simp [results, Tryz.results196, go_sem, z0, z1]) rfl ?_
        exact ⟨HB9.out, nm, u, rfl, rfl, HR9.out⟩
end
section
set_option maxHeartbeats 4000000
set_option maxRecDepth 20000
open Go.RowKit
attribute [local go_sem] bs_toList
theorem rclo_any (x y nm : List UInt8) (b : Nat) (w : World) (hc : w.cell? ⟨b, 0, none⟩ = some (V (bs nm))) :
  Calls pG 197 #[.agg #[V (bs x), V (bs y)], .pointer (some ⟨b, 0, none⟩)] w (Gives w (.bool (x == nm))) := by
 have HB := Lib.hid (below_alloc1 w (B #[V (bs x), V (bs y)] 186))
 have hN := Blk.new w 186 #[V (bs x), V (bs y)]
 obtain ⟨c0, c1, -⟩ := hN.cc
 have hc1 := Below.keeps (below_alloc1 w (B #[V (bs x), V (bs y)] 186)) _ _ hc
 clear hN hc
 unfold Gives
 cases he : (x == nm)
 all_goals
  go_enter Tryz.func197, Tryz.ntmps197
  go_wp2_with fail
  go_ret
  exact ⟨rfl, HB.out⟩
theorem ridx_any (pa : Option Addr) (ca n b : Nat) (ats : List (List (List UInt8))) (nm : List UInt8) (w : World) (hk : ∀ a ∈ ats, a.length = 1 + 1) (hn : n ≤ ats.length) (hA : Rd w pa (acells ats)) (hca : ca ≤ maxLen) (hnc : n ≤ ca) (hc : w.cell? ⟨b, 0, none⟩ = some (V (bs nm))) :
  Calls pG 218 #[.slice pa n ca, .func (.func 197) #[] #[.pointer (some ⟨b, 0, none⟩)]] w fun e w' => ∃ z : Int, e = T (.int .i64 z) ∧ decide (0 ≤ z) = (namesA (ats.take n)).contains nm ∧ Below w.heap.size w w' := by
 have HA := Lib.hid hA
 have HK := Lib.hid hk
 have HC := Lib.hid hc
 unfold maxLen at hca
 clear hA hk hc
 go_enter Tryz.func218, Tryz.ntmps218
 go_wp2_with fail
 go_loopw [8] (fun i wr => ∃ j : Nat, j ≤ n ∧ i = .int .i64 j ∧ (namesA (ats.take j)).contains nm = false ∧ Below w.heap.size w wr) (fun i _ => n - (intOf i).toNat)
 case atStart => exact ⟨0, by omega, rfl, rfl, Below.refl _ _⟩
 case round =>
  obtain ⟨j, hj, rfl, hno, hbw⟩ := hrel
  by_cases hlt : j < n
  ·obtain ⟨e1, o1, x0, x1, rfl, hgx, hx0, hx1⟩ := at_1 HA.out HK.out (show j < ats.length by omega)
   have hx0 := Below.keeps hbw _ _ hx0
   have hx1 := Below.keeps hbw _ _ hx1
   have HCL := Lib.hid (rclo_any x0 x1 nm b wr (Below.keeps hbw _ _ HC.out))
   have hlt' : (j : Int) < (n : Int) := by omega
   have hst : (namesA (ats.take (j + 1))).contains nm = (x0 == nm) := by
    unfold namesA at hno ⊢
    rw [List.take_succ_eq_append_getElem (show j < ats.length by omega), List.map_append, hgx]
    exact has_snoc hno
   have HST := Lib.hid hst
   clear hst hno
   have hcf := fun xs w => (show (callFunc 197 xs).run pG w = .ok (.enter 197 xs) w from by kernel_rfl)
   cases hE : (x0 == nm)
   all_goals
    rw [hE] at HCL HST
    go_wp2_with (go_at_call 197; refine HCL.out.mono ?_; rintro e w2 ⟨rfl, hb⟩)
   ·have hb2 := hbw.trans (hb.mono hbw.size)
    go_roundw
    case rel => exact ⟨j + 1, by omega, by go_num, HST.out, hb2⟩
    case measure => simp [intOf]; omega
   ·have hb2 := hbw.trans (hb.mono hbw.size)
    have hfin : (namesA (ats.take n)).contains nm = true := by
     have h := HST.out
     rw [lO] at h ⊢
     unfold namesA at h ⊢
     rw [List.map_take] at h ⊢
     exact List.take_subset_take_left _ (by omega) h
    go_ret
    exact ⟨(j : Int), rfl, by rw [hfin]; simp, hb2⟩
  ·obtain rfl : j = n := by omega
   go_wp2_with fail
   go_ret
   exact ⟨-1, rfl, by rw [hno]; rfl, hbw⟩
theorem rcont_any (pa : Option Addr) (ca n b : Nat) (ats : List (List (List UInt8))) (nm : List UInt8) (w : World) (hk : ∀ a ∈ ats, a.length = 1 + 1) (hn : n ≤ ats.length) (hA : Rd w pa (acells ats)) (hca : ca ≤ maxLen) (hnc : n ≤ ca) (hc : w.cell? ⟨b, 0, none⟩ = some (V (bs nm))) :
  Calls pG 170 #[.slice pa n ca, .func (.func 197) #[] #[.pointer (some ⟨b, 0, none⟩)]] w (Gives w (.bool ((namesA (ats.take n)).contains nm))) := by
 have HI := Lib.hid (ridx_any pa ca n b ats nm w hk hn hA hca hnc hc)
 clear hk hA hc
 unfold Gives
 obtain ⟨R, hR⟩ : ∃ R, (namesA (ats.take n)).contains nm = R := ⟨_, rfl⟩
 rw [hR] at HI ⊢
 clear hR
 go_enter Tryz.func170, Tryz.ntmps170
 go_wp2_with (go_at_call 218; refine HI.out.mono ?_; rintro e w2 ⟨z, rfl, hz, hb⟩)
 go_ret
 exact ⟨rfl, hb⟩
theorem rowns_but {S : List Nat} {w w' : World} {base size n : Nat} {e : TypeId} {v : Value} {xs : List Value} (h : But S w w') (hS : ∀ s ∈ S, s < base) (ho : w.ownsRow base e size v n xs) : w'.ownsRow base e size v n xs := by
 refine ⟨ho.1, ?_⟩
 rcases ho.2 with h2 | ⟨g, cap, cur, hv, hg, hh, r⟩
 ·exact .inl h2
 ·refine .inr ⟨g, cap, cur, hv, hg, (h.block g (Array.getElem?_eq_some_iff.1 hh).1 ?_).trans hh, r⟩
  rw [Bool.eq_false_iff]
  intro hc
  have := hS g (lO.1 hc)
  omega
theorem But.grow {S : List Nat} {a w w' : World} {q : Option Nat} (h : But S a w) (k : w.grownBy w' q) (hq : ∀ b, q = some b → a.heap.size ≤ b) : But S a w' :=
 ⟨k.os.trans h.os, k.tape.trans h.tape, k.output.trans h.output, Nat.le_trans h.size k.size, fun i hi hn => (k.block i (Nat.lt_of_lt_of_le hi h.size) fun e => by have := hq i e.symm; omega).trans (h.block i hi hn)⟩
theorem any_names (out : List (List (List UInt8))) (x : List UInt8) : (out.any fun b => b.getD 0 [] == x) = (namesA out).contains x := by
 unfold namesA
 rw [List.contains_eq_any_beq, List.any_map]
 congr 1
 funext b
 show (b.getD 0 [] == x) = (x == b.getD 0 [])
 rw [Bool.eq_iff_iff, beq_iff_eq, beq_iff_eq]
 exact eq_comm
def AtsG (E : Nat → Addr) (r : Nat) (d : Int) (o : Option (List (List (List UInt8)) × List UInt8)) (w : World) (e : Ending) (w' : World) : Prop :=
 But [r] w w' ∧ match o with
  | some (ats, s) => ∃ v, e = T v ∧ w'.ownsRow w.heap.size 186 2 v ats.length (acells ats) ∧ (∀ a ∈ ats, a.length = 1 + 1) ∧ ats.length ≤ 12 ∧ Rr w' r s d
  | none => e = .panicked (panE E 3) ∧ ∃ s', Rr w' r s' d
theorem xattr_info : (pG.info? 186).map (fun i => (i.zero, i.size, i.bytes)) = some (some (.agg #[V ⟨#[]⟩, V ⟨#[]⟩]), 2, 32) := by kernel_rfl
theorem attrR_len {s : List UInt8} {a : List (List UInt8)} {u : List UInt8} (h : attrR s = some (a, u)) : u.length < s.length := by
 unfold attrR at h
 obtain ⟨p, hp, h⟩ := oA.1 h
 obtain ⟨s3, h3, h⟩ := oA.1 h
 have l1 := nameR_len (a := p.1) (b := p.2) hp
 have l2 := blank_len p.2
 have l3 := cutR_len h3
 have l4 := blank_len s3
 split at h
 ·cases h
 ·rename_i m t e
  rw [e] at l4
  split at h
  ·obtain ⟨v, hv, h⟩ := oA.1 h
   obtain ⟨s5, h5, h⟩ := oA.1 h
   obtain ⟨x, hx, h⟩ := Option.map_eq_some_iff.1 h
   cases h
   have l5 := upR_len (a := v.1) (b := v.2) hv
   have l6 := cutR_len h5
   simp only [lH, List.length_nil] at *
   omega
  ·cases h
theorem rattrs_any (E : Nat → Addr) (r : Nat) (d : Int) (s0 : List UInt8) (n0 : Nat) (w : World) (hx : LibX r w E) (hr : Rr w r s0 d) (hs : s0.length ≤ 1000000) (hn0 : s0.length < n0) :
  Calls pG 147 #[.pointer (some ⟨r, 0, none⟩)] w (AtsG E r d (attrsR n0 [] s0) w) := by
 obtain ⟨O, hO⟩ : ∃ O, attrsR n0 [] s0 = O := ⟨_, rfl⟩
 rw [hO]
 obtain ⟨i0, hi0, hz0, hz1, hz2⟩ := info_parts xattr_info
 have HLX := Lib.hid hx
 have HX := Lib.hid hx
 have HR := Lib.hid hr
 have HO := Lib.hid hO
 have hrw := hr.lt
 have HFY := Lib.hid (fun w => xfail_y w)
 have hmf := @run_makeFunc pG
 clear hx hr hO
 go_enter Tryz.func147, Tryz.ntmps147
 go_wp2_with fail
 go_loopw [3] (fun v wr => ∃ (s : List UInt8) (out : List (List (List UInt8))) (n : Nat), LibX r wr E ∧ Rr wr r s d ∧ wr.ownsRow w.heap.size 186 2 v out.length (acells out) ∧ (∀ a ∈ out, a.length = 1 + 1) ∧ out.length ≤ 12 ∧ attrsR n out s = O ∧ s.length < n ∧ s.length ≤ 1000000 ∧ But [r] w wr) (fun _ wr => match wr.cell? ⟨r, 0, none⟩ with | some (.string b) => b.size | _ => 0)
 case atStart => exact ⟨s0, [], n0, HX.out, HR.out, ⟨rfl, .inl ⟨rfl, rfl⟩⟩, by simp, by simp, HO.out, hn0, hs, But.of_below (Below.refl _ _)⟩
 case round =>
  clear HX HR HO
  obtain ⟨s, out, n, hx, hr, hown, hk, h12, hO, hn, hs, hbw⟩ := hrel
  obtain ⟨n, rfl⟩ : ∃ m, n = m + 1 := ⟨n - 1, by omega⟩
  have hrc : wr.cell? ⟨r, 0, none⟩ = some (V (bs s)) := (hr.cell 0).trans rfl
  have HRC := Lib.hid hrc
  have HBL := Lib.hid (rblank_any wr hr hs)
  have HX := Lib.hid hx
  have HK := Lib.hid hk
  have HOW := Lib.hid hown
  have HBW := Lib.hid hbw
  have hl := blank_len s
  unfold attrsR at hO
  unfold moreB at hO
  generalize blankR s = t at *
  obtain ⟨z, hzz⟩ : ∃ z, s.length - t.length = z := ⟨_, rfl⟩
  rw [hzz] at HBL
  have HO := Lib.hid hO
  clear hx hr hown hk hbw hO hrc
  go_wp2_with fail
  refine HBL.out.mono ?_
  rintro e w1 ⟨rfl, hr1, hb1⟩
  have HX1 := Lib.hid (HX.out.but hb1)
  have HR1 := Lib.hid hr1
  have HO1 := Lib.hid (rowns_but hb1 (by intro q hq; rw [List.mem_singleton.1 hq]; exact hrw) HOW.out)
  have HB1 := Lib.hid (HBW.out.trans hb1)
  have c1 := (hr1.cell 0).trans rfl
  clear hr1 hb1 HBL
  have hO := HO.out
  clear HO
  by_cases hlt : t.length < s.length
  rotate_left 1
  ·have g1 : decide ((0 : Int) < (z : Int)) = false := decide_eq_false (by omega)
   rw [decide_eq_false hlt, Bool.false_and, if_neg (by simp)] at hO
   obtain rfl : O = some (out, t) := hO.symm
   go_wp2_with fail
   go_ret
   exact ⟨HB1.out, _, rfl, HO1.out, HK.out, h12, HR1.out⟩
  have g1 : decide ((0 : Int) < (z : Int)) = true := decide_eq_true (by omega)
  rw [decide_eq_true hlt, Bool.true_and] at hO
  cases t with
  | nil =>
   have hi : (bs []).toList.isEmpty = true := by rw [bs_toList]; rfl
   rw [if_neg (by simp)] at hO
   obtain rfl : O = some (out, []) := hO.symm
   go_wp2_with fail
   go_ret
   exact ⟨HB1.out, _, rfl, HO1.out, HK.out, h12, HR1.out⟩
  | cons c t =>
   have hi : (bs (c :: t)).toList.isEmpty = false := by rw [bs_toList]; rfl
   have hz := bs_size (c :: t)
   have hk0 : (0 : Int) < ((bs (c :: t)).size : Int) := by rw [hz, lH]; omega
   have hlk : (bs (c :: t))[0]'(by rw [hz, lH]; omega) = c := rfl
   dsimp only at hO
   by_cases h47 : c = 47
   ·have q1 : ((c.toNat : Int) != 47) = false := by rw [h47]; rfl
    rw [if_neg (by rw [h47]; decide)] at hO
    obtain rfl : O = some (out, c :: t) := hO.symm
    clear h47
    go_wp2_with fail
    go_ret
    exact ⟨HB1.out, _, rfl, HO1.out, HK.out, h12, HR1.out⟩
   have q1 : ((c.toNat : Int) != 47) = true := by
    rw [bne_iff_ne]
    intro e
    exact h47 (UInt8.toNat_inj.1 (by have : (47 : UInt8).toNat = 47 := rfl; omega))
   by_cases h62 : c = 62
   ·have q2 : ((c.toNat : Int) != 62) = false := by rw [h62]; rfl
    rw [if_neg (by rw [h62]; decide)] at hO
    obtain rfl : O = some (out, c :: t) := hO.symm
    clear h62 h47
    go_wp2_with fail
    go_ret
    exact ⟨HB1.out, _, rfl, HO1.out, HK.out, h12, HR1.out⟩
   have q2 : ((c.toNat : Int) != 62) = true := by
    rw [bne_iff_ne]
    intro e
    exact h62 (UInt8.toNat_inj.1 (by have : (62 : UInt8).toNat = 62 := rfl; omega))
   rw [if_pos (by
    have e1 : (c != 47) = true := by rw [bne_iff_ne]; exact h47
    have e2 : (c != 62) = true := by rw [bne_iff_ne]; exact h62
    rw [e1, e2]; rfl)] at hO
   have HAT := Lib.hid (rattr_any E r (c :: t) d w1 HX1.out HR1.out (by omega))
   have HOO := Lib.hid hO
   clear h47 h62 hO
   go_wp2_with fail
   refine HAT.out.mono ?_
   rintro e w2 ⟨hb2, he⟩
   have hO := HOO.out
   clear HOO HAT
   cases ha : attrR (c :: t) with
   | none =>
    rw [ha] at hO he
    obtain rfl : O = none := hO.symm
    obtain ⟨rfl, s', hr'⟩ := he
    exact ⟨rfl, HB1.out.trans hb2, rfl, s', hr'⟩
   | some p =>
    obtain ⟨a, s2⟩ := p
    have hl2 := attrR_len ha
    rw [ha] at hO he
    rw [oC] at hO
    clear ha
    obtain ⟨x0, x1, rfl, rfl, hr2⟩ := he
    dsimp only at hO
    rw [show ([x0, x1] : List (List UInt8)).getD 0 [] = x0 from rfl, any_names] at hO
    have hba := below_alloc1 w2 (B #[V (bs x0), V (bs x1)] 186)
    have hb3 := hb2.trans (But.of_below (S := [r]) hba)
    have HX3 := Lib.hid (HX1.out.but hb3)
    have HR3 := Lib.hid (hr2.alloc (B #[V (bs x0), V (bs x1)] 186))
    have HO3 := Lib.hid (rowns_but hb3 (by intro q hq; rw [List.mem_singleton.1 hq]; exact hrw) HO1.out)
    have HN3 := Lib.hid (Blk.new w2 186 #[V (bs x0), V (bs x1)])
    have HB3 := Lib.hid (HB1.out.trans hb3)
    have hg4 : w.heap.size ≤ w2.heap.size := (HB1.out.trans hb2).size
    obtain ⟨pO, cO, rfl, hnc, hca, hrd⟩ := owns_rd HO3.out
    have HRD := Lib.hid hrd
    clear hb2 hr2 hba hb3 c1 hi hz hk0 hlk q1 q2 g1 hrd
    by_cases h11 : out.length < 12
    rotate_left 1
    ·rw [if_neg (fun h => h11 h.1)] at hO
     obtain rfl : O = none := hO.symm
     have g5 : decide ((out.length : Int) < 12) = false := decide_eq_false (by omega)
     have HFN := Lib.hid (xfail_n _ E HX3.out.errs)
     go_wp2_with (go_at_call 89; refine HFN.out.mono ?_; rintro e w5 ⟨rfl, rfl⟩)
     exact ⟨rfl, HB3.out, rfl, _, HR3.out⟩
    have g5 : decide ((out.length : Int) < 12) = true := decide_eq_true (by omega)
    have HCT := Lib.hid (rcont_any pO cO out.length w2.heap.size out x0 _ HK.out (nR _) HRD.out hca hnc ((HN3.out.cell 0).trans rfl))
    rw [List.take_of_length_le (nR _)] at HCT
    have HOO := Lib.hid hO
    clear hO
    go_wp2_with fail
    generalize hgw : w2.heap.size = g4 at *
    generalize w2.alloc (B #[V (bs x0), V (bs x1)] 186) = w3 at *
    refine HCT.out.mono ?_
    rintro e w4 ⟨rfl, hb4⟩
    have hO := HOO.out
    clear HOO HCT
    have HX4 := Lib.hid (HX3.out.but (But.of_below hb4))
    have HR4 := Lib.hid (HR3.out.below hb4 HR3.out.lt)
    have HO4 := Lib.hid (owns_below HO3.out hb4)
    have HN4 := Lib.hid (HN3.out.below hb4 HN3.out.lt)
    have HB4 := Lib.hid (HB3.out.trans (But.of_below hb4))
    clear hb4
    cases hct : (namesA out).contains x0 with
    | true =>
     rw [hct, if_neg (by simp)] at hO
     obtain rfl : O = none := hO.symm
     have HFN := Lib.hid (xfail_n _ E HX4.out.errs)
     go_wp2_with (go_at_call 89; refine HFN.out.mono ?_; rintro e w5 ⟨rfl, rfl⟩)
     exact ⟨rfl, HB4.out, rfl, _, HR4.out⟩
    | false =>
     rw [hct, if_pos ⟨h11, rfl⟩] at hO
     have HO5 := Lib.hid hO
     obtain ⟨d0, d1, -⟩ := HN4.out.cc
     have hs4 : w.heap.size ≤ (w4.alloc (B #[V (bs x0), V (bs x1)] 186)).heap.size := by have := HB4.out.size; simp; omega
     have HO6 := Lib.hid (owns_below HO4.out (below_alloc1 w4 (B #[V (bs x0), V (bs x1)] 186)))
     have HB6 := Lib.hid (HB4.out.trans (But.of_below (S := [r]) (below_alloc1 w4 (B #[V (bs x0), V (bs x1)] 186))))
     have HR6 := Lib.hid (HR4.out.alloc (B #[V (bs x0), V (bs x1)] 186))
     have HX6 := Lib.hid (HX4.out.but (But.of_below (S := [r]) (below_alloc1 w4 (B #[V (bs x0), V (bs x1)] 186))))
     clear hct hO
     go_wp2_with (first | (go_at_call 89; refine (HFY.out _).mono ?_; rintro e w5 ⟨rfl, rfl⟩) | (at_builtin; refine wpList_app (.tmp 43) (.tmp 45) 93 rfl rfl w.heap.size 186 i0 (.agg #[V ⟨#[]⟩, V ⟨#[]⟩]) 2 32 Tryz.underlying93 hi0 hz0 hz1 hz2 rfl (by decide) _ _ _ rfl HO6.out _ _ _ [V (bs x0), V (bs x1)] rfl rfl (rd_at _ #[_, _] _ _ _ (by simp)) ?b1 ?b2 ?b3 hs4 ?_))
     case b1 => simp [Value.oneCell']
     case b2 => unfold maxLen; omega
     case b3 => omega
     intro v1 w7 ho7 hg7
     obtain ⟨p1, cp1, rfl, _, _, _⟩ := owns_rd ho7
     have hlo : ∀ g, (Value.slice pO out.length cO).ownBlock = some g → w.heap.size ≤ g := fun g hg => (HO6.out.lt g hg).1
     have hb7 := HB6.out.grow hg7 hlo
     have hr7 : Rr w7 r s2 d := (hg7.block r HR6.out.lt fun e => by have := hlo _ e.symm; omega).trans HR6.out
     have HO7 := Lib.hid (show w7.ownsRow w.heap.size 186 2 (.slice p1 (out.length + 1) cp1) (out ++ [[x0, x1]]).length (acells (out ++ [[x0, x1]])) by
      rw [acells_snoc, lF]
      exact ho7)
     have HR7 := Lib.hid hr7
     have HB7 := Lib.hid hb7
     have hrc7 : w7.cell? ⟨r, 0, none⟩ = some (V (bs s2)) := (hr7.cell 0).trans rfl
     have HRC7 := Lib.hid hrc7
     clear ho7 hg7 hb7 hr7 hlo hrc7 d0 d1
     go_wp2_with fail
     go_roundw
     case rel =>
      refine ⟨s2, out ++ [[x0, x1]], n, HLX.out.but HB7.out, HR7.out, HO7.out, ?_, by rw [lF, List.length_singleton]; omega, HO5.out, by rw [lH] at *; omega, by rw [lH] at *; omega, HB7.out⟩
      intro a ha
      rcases List.mem_append.1 ha with ha | ha
      ·exact HK.out a ha
      ·rw [List.mem_singleton.1 ha]; rfl
     case measure =>
      rw [HRC7.out, HRC.out]
      simp only [bs_size]
      rw [lH] at *
      omega
end
end Go.Proofs.YthboiahdheehkaaGreatDoor
