/-
  XmlY: blanks within marks don't matter: plainly. No program.
  LawXB: XmlBlanks: the walk.
-/
import Derived.Test.YtkghpmpmcafhkaaGreatDoorQG
import Derived.Test.YtkghpmpmcafhkaaGreatDoorLA
namespace Go.Proofs.YtkghpmpmcafhkaaGreatDoor
open Go.RowKit

/-- the signs of a text that may stand -/
def cleanGo : Nat → List UInt8 → List UInt8
  | 0, _ => []
  | n + 1, l => if l = [] then [] else (if badB l = true ∨ mayB (Lib.decodeL l).1 = false then [] else l.take (Lib.decodeL l).2) ++ cleanGo n (l.drop (Lib.decodeL l).2)
def cleanF (l : List UInt8) : List UInt8 := cleanGo l.length l
theorem clean_esc (v : Bool) : ∀ (n : Nat) (l : List UInt8), l.length ≤ n → sigB (cleanGo n l) = true ∧ escF v (cleanGo n l) = escF v l ∧ (escF v l).length ≤ 6 * l.length := by
  intro n
  induction n with
  | zero =>
    intro l hl
    obtain rfl : l = [] := List.length_eq_zero_iff.1 (by omega)
    exact ⟨rfl, rfl, by rw [escF_nil]; simp⟩
  | succ n ih =>
    intro l hl
    by_cases h0 : l = []
    · subst h0
      exact ⟨rfl, rfl, by rw [escF_nil]; simp⟩
    have hw := Lib.decodeL_width l
    have hle := Lib.decodeL_le l h0
    obtain ⟨i1, i2, i3⟩ := ih (l.drop (Lib.decodeL l).2) (by rw [List.length_drop]; omega)
    have hlen : (escF v l).length ≤ 6 * l.length := by
      rw [escF_step v l h0, List.length_append]
      have := escOne_len v l
      rw [List.length_drop] at i3
      omega
    refine ⟨?_, ?_, hlen⟩
    · unfold cleanGo
      rw [if_neg h0]
      split
      · exact i1
      · rename_i hno
        simp only [not_or, Bool.not_eq_true, Bool.not_eq_false] at hno
        rw [sg_sig (oneSg_take h0 hno.1 hno.2)]
        exact i1
    · unfold cleanGo
      rw [if_neg h0, escF_step v l h0]
      split
      · rename_i hb
        rw [List.nil_append, i2]
        unfold escOne
        rw [if_pos hb, List.nil_append]
      · rename_i hno
        simp only [not_or, Bool.not_eq_true, Bool.not_eq_false] at hno
        have ht := oneSg_take h0 hno.1 hno.2
        have hd := decode_take l (cleanGo n (l.drop (Lib.decodeL l).2)) h0 hno.1
        have hb := bad_take l (cleanGo n (l.drop (Lib.decodeL l).2)) h0 hno.1
        have htl : (l.take (Lib.decodeL l).2).length = (Lib.decodeL l).2 := by rw [List.length_take]; omega
        rw [escF_step v _ (by simp [ht.1]), hd]
        have e1 : (l.take (Lib.decodeL l).2 ++ cleanGo n (l.drop (Lib.decodeL l).2)).drop (Lib.decodeL l).2 = cleanGo n (l.drop (Lib.decodeL l).2) := by
          rw [List.drop_append_of_le_length (by omega), List.drop_of_length_le (by omega), List.nil_append]
        have e2 : (l.take (Lib.decodeL l).2 ++ cleanGo n (l.drop (Lib.decodeL l).2)).take (Lib.decodeL l).2 = l.take (Lib.decodeL l).2 := by
          rw [List.take_append_of_le_length (by omega), List.take_of_length_le (by omega)]
        have e3 : escOne v (l.take (Lib.decodeL l).2 ++ cleanGo n (l.drop (Lib.decodeL l).2)) = escOne v l := by
          unfold escOne
          rw [hd, hb, if_neg (by simp [hno.2]), if_neg (by simp [hno.1, hno.2]), e2]
        rw [e1, i2, e3]
theorem cleanF_sig (l : List UInt8) : sigB (cleanF l) = true := (clean_esc true l.length l (Nat.le_refl _)).1
theorem cleanF_esc (v : Bool) (l : List UInt8) : escF v (cleanF l) = escF v l := (clean_esc v l.length l (Nat.le_refl _)).2.1
theorem esc_len (v : Bool) (l : List UInt8) : (escF v l).length ≤ 6 * l.length := (clean_esc v l.length l (Nat.le_refl _)).2.2
/-- the element of one attribute k -/
def oneAt (nm v : List UInt8) : Tr := .node [nm] [[[107], cleanF v]] [] []
/-- as it is written -/
theorem blanks_one {nm v : List UInt8} (hn : nameB nm = true) (h1 : nm.length ≤ 100) (h2 : v.length ≤ 200) :
    parseE ([60] ++ nm ++ [32, 107, 61, 34] ++ escF true v ++ [34, 47, 62]) = .ok (oneAt nm v) := by
  have hok : (oneAt nm v).ok 1 := by
    unfold oneAt Tr.ok
    exact ⟨rfl, fun a ha => (by rw [List.mem_singleton] at ha; subst ha; rfl), by unfold Tr.okL; trivial⟩
  have hw : (oneAt nm v).wrt = [60] ++ nm ++ [32, 107, 61, 34] ++ escF true v ++ [34, 47, 62] := by
    unfold oneAt Tr.wrt
    rw [if_neg (show ¬ ([nm] : List (List UInt8)).getD 0 [] = [] from name_ne hn), if_pos (show ([] : List Tr).length = 0 from rfl)]
    simp [atT, cleanF_esc]
  have he : textE (oneAt nm v) = 0 := by
    unfold textE
    have hr : (oneAt nm v).rgt 1 = true := by
      unfold oneAt Tr.rgt
      simp only [Bool.and_eq_true, decide_eq_true_eq, beq_iff_eq]
      refine ⟨⟨⟨⟨⟨by omega, hn⟩, trivial⟩, ?_⟩, by simp⟩, by unfold Tr.rgtL; rfl⟩
      unfold atsB
      have k1 : nameB (([[107], cleanF v] : List (List UInt8)).getD 0 []) = true := by
        show nameB [107] = true
        decide
      have k2 : sigB (([[107], cleanF v] : List (List UInt8)).getD 1 []) = true := cleanF_sig v
      rw [k1, k2]
      rfl
    rw [hr, if_neg (by decide), if_neg]
    rw [hw]
    have := esc_len true v
    simp only [List.length_append, List.length_cons, List.length_nil]
    omega
  rw [← hw]
  exact parse_wrt hok he
theorem blank_gap : ∀ (g t : List UInt8), (∀ c ∈ g, isBl c = true) → blankR (g ++ t) = blankR t
  | [], _, _ => rfl
  | c :: g, t, h => by
    have := blank_gap g t (fun x hx => h x (by simp [hx]))
    unfold blankR at this ⊢
    rw [List.cons_append, List.dropWhile_cons, h c (by simp)]
    exact this
theorem blank_gapc {g t : List UInt8} {c : UInt8} (h : ∀ c ∈ g, isBl c = true) (hc : isBl c = false) : blankR (g ++ c :: t) = c :: t := by
  rw [blank_gap g _ h, blank_let t hc]
theorem gap_head {g t : List UInt8} {c : UInt8} (h : ∀ c ∈ g, isBl c = true) (hc : nmC c = false) : ∀ d u, g ++ c :: t = d :: u → nmC d = false := by
  intro d u e
  cases g with
  | nil =>
    injection e with e1 _
    rw [← e1]
    exact hc
  | cons x xs =>
    injection e with e1 _
    rw [← e1]
    have := h x (by simp)
    unfold isBl at this
    simp only [Bool.or_eq_true, beq_iff_eq] at this
    rcases this with ((rfl | rfl) | rfl) | rfl <;> decide
/-- with blanks -/
theorem blanks_two {nm v g : List UInt8} (hn : nameB nm = true) (h1 : nm.length ≤ 100) (h2 : v.length ≤ 200) (h3 : g.length ≤ 20) (hg : ∀ c ∈ g, isBl c = true) :
    parseE ([60] ++ nm ++ [32] ++ g ++ [107] ++ g ++ [61] ++ g ++ [34] ++ escF true v ++ [34] ++ g ++ [62, 60, 47] ++ nm ++ g ++ [62]) = .ok (oneAt nm v) := by
  have el := esc_len true v
  unfold parseE
  rw [if_neg (by simp only [List.length_append, List.length_cons, List.length_nil]; omega)]
  have hs : ([60] ++ nm ++ [32] ++ g ++ [107] ++ g ++ [61] ++ g ++ [34] ++ escF true v ++ [34] ++ g ++ [62, 60, 47] ++ nm ++ g ++ [62]) = 60 :: (nm ++ 32 :: (g ++ 107 :: (g ++ 61 :: (g ++ 34 :: (escF true v ++ 34 :: (g ++ 62 :: 60 :: 47 :: (nm ++ (g ++ [62])))))))) := by simp
  rw [hs]
  obtain ⟨n, hnn⟩ : ∃ n, 2 * (60 :: (nm ++ 32 :: (g ++ 107 :: (g ++ 61 :: (g ++ 34 :: (escF true v ++ 34 :: (g ++ 62 :: 60 :: 47 :: (nm ++ (g ++ [62]))))))))).length + 2 = n + 2 := ⟨_, rfl⟩
  rw [hnn]
  have ha : attrR (107 :: (g ++ 61 :: (g ++ 34 :: (escF true v ++ 34 :: (g ++ 62 :: 60 :: 47 :: (nm ++ (g ++ [62]))))))) = some ([[107], cleanF v], g ++ 62 :: 60 :: 47 :: (nm ++ (g ++ [62]))) := by
    unfold attrR
    rw [show 107 :: (g ++ 61 :: (g ++ 34 :: (escF true v ++ 34 :: (g ++ 62 :: 60 :: 47 :: (nm ++ (g ++ [62])))))) = [107] ++ (g ++ 61 :: (g ++ 34 :: (escF true v ++ 34 :: (g ++ 62 :: 60 :: 47 :: (nm ++ (g ++ [62])))))) from rfl, nameR_app (by decide) (gap_head hg (by decide))]
    simp only [Option.bind_some]
    rw [blank_gapc hg (by decide)]
    show ((some _ : Option (List UInt8)).bind _) = _
    simp only [Option.bind_some]
    rw [blank_gapc hg (by decide)]
    simp only
    rw [if_pos (.inl trivial), upR_stop (c := 34) (fun x hx => by
      have := esc_marks true v.length v (Nat.le_refl _) x hx
      simp [this.1, this.2 rfl]) (by decide)]
    simp only [Option.bind_some]
    show ((some _ : Option (List UInt8)).bind _) = _
    simp only [Option.bind_some]
    rw [← cleanF_esc, textD_esc true _ (cleanF_sig v)]
    rfl
  have hat : attrsR ((32 :: (g ++ 107 :: (g ++ 61 :: (g ++ 34 :: (escF true v ++ 34 :: (g ++ 62 :: 60 :: 47 :: (nm ++ (g ++ [62])))))))).length + 1) [] (32 :: (g ++ 107 :: (g ++ 61 :: (g ++ 34 :: (escF true v ++ 34 :: (g ++ 62 :: 60 :: 47 :: (nm ++ (g ++ [62])))))))) = some ([[[107], cleanF v]], 62 :: 60 :: 47 :: (nm ++ (g ++ [62]))) := by
    have hbl : blankR (32 :: (g ++ 107 :: (g ++ 61 :: (g ++ 34 :: (escF true v ++ 34 :: (g ++ 62 :: 60 :: 47 :: (nm ++ (g ++ [62])))))))) = 107 :: (g ++ 61 :: (g ++ 34 :: (escF true v ++ 34 :: (g ++ 62 :: 60 :: 47 :: (nm ++ (g ++ [62])))))) := by
      refine (blank_gap [32] _ (by decide)).trans ?_
      exact blank_gapc hg (by decide)
    rw [attrsR, hbl, if_pos (by
      unfold moreB
      simp only [List.length_cons, List.length_append]
      simp
      omega), ha]
    simp only [Option.bind_some]
    rw [if_pos ⟨by simp, by simp⟩, List.nil_append]
    rw [List.length_cons, attrsR, blank_gapc hg (by decide), if_neg (by unfold moreB; simp)]
  have hel : elemP (n + 2) 0 (60 :: (nm ++ 32 :: (g ++ 107 :: (g ++ 61 :: (g ++ 34 :: (escF true v ++ 34 :: (g ++ 62 :: 60 :: 47 :: (nm ++ (g ++ [62]))))))))) = .ok (oneAt nm v, []) := by
    unfold elemP
    rw [show (cutR [60] (60 :: (nm ++ 32 :: (g ++ 107 :: (g ++ 61 :: (g ++ 34 :: (escF true v ++ 34 :: (g ++ 62 :: 60 :: 47 :: (nm ++ (g ++ [62])))))))))).bind nameR = some (nm, 32 :: (g ++ 107 :: (g ++ 61 :: (g ++ 34 :: (escF true v ++ 34 :: (g ++ 62 :: 60 :: 47 :: (nm ++ (g ++ [62])))))))) from nameR_app hn (fun c t e => by injection e with e1 _; rw [← e1]; decide)]
    simp only
    rw [if_neg (by omega), hat]
    simp only
    split
    · rename_i e
      injection e with e1 _
      exact absurd e1 (by decide)
    rw [show cutR [62] (62 :: 60 :: 47 :: (nm ++ (g ++ [62]))) = some (60 :: 47 :: (nm ++ (g ++ [62]))) from rfl]
    simp only
    unfold contP
    rw [show cutR [60, 47] (60 :: 47 :: (nm ++ (g ++ [62]))) = some (nm ++ (g ++ [62])) from rfl]
    simp only
    rw [show (cutR [60, 47] (60 :: 47 :: (nm ++ (g ++ [62])))).bind nameR = some (nm, g ++ [62]) from nameR_app hn (gap_head hg (by decide))]
    simp only
    rw [if_pos trivial, blank_gapc hg (by decide), show cutR [62] [62] = some [] from rfl]
    rfl
  rw [hel]
end Go.Proofs.YtkghpmpmcafhkaaGreatDoor

namespace Go.Proofs.YtkghpmpmcafhkaaGreatDoor
open Go.RowKit Go.Extern.Stop Go.Stop Go.Extern
attribute [local go_sem] bs_toList
attribute [local irreducible] wpPhi

/-- the blank that a byte stands for -/
def gapC (n : Nat) : UInt8 := ([32, 9, 10, 13] : List UInt8).getD n 32
def gapF (l : List UInt8) : List UInt8 := l.map fun c => gapC (c.toNat % 4)
theorem gap_bl (l : List UInt8) : ∀ c ∈ gapF l, isBl c = true := by
  intro c hc
  obtain ⟨x, _, rfl⟩ := List.mem_map.1 hc
  have : ∀ d : Fin 4, isBl (gapC d.val) = true := by decide
  exact this ⟨x.toNat % 4, Nat.mod_lt _ (by omega)⟩
theorem gap_step {l : List UInt8} {j : Nat} (h : j < l.length) : gapF (l.take (j + 1)) = gapF (l.take j) ++ [gapC (l[j].toNat % 4)] := by
  unfold gapF
  rw [List.take_succ_eq_append_getElem h, List.map_append]
  rfl
theorem gap_get : ∀ d : Fin 4, ∀ h, (⟨#[32, 9, 10, 13]⟩ : ByteArray)[d.val]'h = gapC d.val := by decide
theorem gap_low : ∀ d : Fin 4, (gapC d.val).toNat < 128 := by decide
theorem genc_one (c : UInt8) (h : c.toNat < 128) : Utf8.encode (c.toNat : Int) = bs [c] := by
  have hv : Utf8.valid (c.toNat : Int) = true := by
    unfold Utf8.valid
    simp
    omega
  unfold Utf8.encode
  simp only [hv, if_true, Int.toNat_natCast, h, UInt8.ofNat_toNat]
  rfl
theorem gconv_one (c : UInt8) (h : c.toNat < 128) (w : World) : (convert 5 9 (.int .u8 (c.toNat : Int))).run Tryz.prog w = .ok (.string (bs [c])) w := by
  rw [run_convert_int_string (P := Tryz.prog) w _ _ _ _ (by kernel_rfl) (by kernel_rfl), genc_one c h]
theorem oneAt_cells {nm v : List UInt8} {w : World} {P : Nat → Prop} {cs : List Value} (h : TrC w P (oneAt nm v) cs) : ∃ g off ca pk ck, cs = [.string (bs nm), .slice (some ⟨g, off, none⟩) 1 ca, .slice pk 0 ck, .string ⟨#[]⟩] ∧ w.cell? ⟨g, off, none⟩ = some (.string ⟨#[107]⟩) := by
  unfold oneAt TrC at h
  obtain ⟨pa, ca, pk, ck, css, rfl, ⟨_, _, hr, _⟩, _⟩ := h
  rcases hr with h | ⟨g, off, rfl, hc⟩
  · simp [acells, strs] at h
  · exact ⟨g, off, ca, pk, ck, rfl, hc 0 _ rfl⟩
set_option maxRecDepth 40000 in
set_option maxHeartbeats 8000000 in
theorem blanks_any (E : Nat → Addr) (nm vl bl : List UInt8) (bv : Value) (w : World) (hg : LibG w) (hE : Errs w E) (h1 : nm.length ≤ maxLen) (h2 : vl.length ≤ maxLen) (hB : Byt w bv bl) :
    Calls Tryz.prog 6 #[.string (bs nm), .string (bs vl), bv] w (fun e w' => e = .returned (.bool true) ∧ Below w.heap.size w w') := by
  have HAL := Lib.hid (alive23_any E w hg hE)
  obtain ⟨pb, cb, rfl, hb1, hb2, hb3⟩ := hB
  have hz1 := bs_size nm
  have hz2 := bs_size vl
  by_cases hbig : 100 < nm.length ∨ 200 < vl.length ∨ 20 < bl.length
  · have hbig2 : (100 : Int) < ((bs nm).size : Int) ∨ (¬ (100 : Int) < ((bs nm).size : Int) ∧ (200 : Int) < ((bs vl).size : Int)) ∨ (¬ (100 : Int) < ((bs nm).size : Int) ∧ ¬ (200 : Int) < ((bs vl).size : Int) ∧ (20 : Int) < (bl.length : Int)) := by rw [hz1, hz2]; omega
    clear hg hE hz1 hz2 hbig h1 h2 hb1 hb2 hb3
    rcases hbig2 with q1 | ⟨q1, q2⟩ | ⟨q1, q2, q3⟩
    all_goals
      go_enter Tryz.func6, Tryz.ntmps6
      go_wp2_with fail
      refine HAL.out.mono ?_
      rintro e w1 ⟨rfl, hb1⟩
      have HB1 := Lib.hid hb1
      clear hb1
      go_wp2_with fail
      go_ret
      exact ⟨rfl, HB1.out⟩
  have q1 : ¬ (100 : Int) < ((bs nm).size : Int) := by rw [hz1]; omega
  have q2 : ¬ (200 : Int) < ((bs vl).size : Int) := by rw [hz2]; omega
  have q3 : ¬ (20 : Int) < (bl.length : Int) := by omega
  have HNA := Lib.hid (fun w1 (hb : Below w.heap.size w w1) => name_any nm (by omega) w1 (hg.below hb))
  cases hn : nameB nm with
  | false =>
    rw [hn] at HNA
    clear hg hE hz1 hz2 hbig h1 h2 hb1 hb2 hb3 hn
    go_enter Tryz.func6, Tryz.ntmps6
    go_wp2_with fail
    refine HAL.out.mono ?_
    rintro e w1 ⟨rfl, hb1⟩
    have HB1 := Lib.hid hb1
    clear hb1
    go_wp2_with fail
    refine (HNA.out w1 HB1.out).mono ?_
    rintro e w2 ⟨rfl, hb2⟩
    have HB2 := Lib.hid (HB1.out.trans (hb2.mono HB1.out.size))
    clear hb2
    go_wp2_with fail
    go_ret
    exact ⟨rfl, HB2.out⟩
  | true =>
    rw [hn] at HNA
    have HES := Lib.hid (fun w1 (hb : Below w.heap.size w w1) => escape_any vl true (by omega) w1 (hg.below hb))
    have hel := esc_len true vl
    have HP1 := Lib.hid (fun w1 (hb : Below w.heap.size w w1) => parse_good E _ _ w1 (hg.below hb) (hE.below hb) (by simp only [List.length_append, List.length_cons, List.length_nil]; unfold maxLen; omega) (blanks_one hn (by omega) (by omega : vl.length ≤ 200)))
    have HP2 := Lib.hid (fun w1 (hb : Below w.heap.size w w1) => parse_good E _ _ w1 (hg.below hb) (hE.below hb) (by simp only [List.length_append, List.length_cons, List.length_nil]; simp only [gapF, List.length_map]; unfold maxLen; omega) (blanks_two hn (by omega) (by omega : vl.length ≤ 200) (by simp only [gapF, List.length_map]; omega) (gap_bl bl)))
    have HRD := Lib.hid hb3
    have HBL : RowKit.Hid (bl.length ≤ 20) := Lib.hid (by omega)
    have HNL : RowKit.Hid (nm.length ≤ 100) := Lib.hid (by omega)
    have HVL : RowKit.Hid ((escF true vl).length ≤ 1200) := Lib.hid (by omega)
    have hok : (oneAt nm vl).ok 1 := by unfold oneAt; simp [Tr.ok, Tr.okL]
    have HSA := Lib.hid (fun P Q cx cy w1 (hT : TrC w1 P (oneAt nm vl) cx) (hT2 : TrC w1 Q (oneAt nm vl) cy) => same_any (oneAt nm vl).sz _ _ P Q cx cy w1 (Nat.le_refl _) hok hok hT hT2)
    rw [Tr.eqb_refl] at HSA
    generalize escF true vl = ev at *
    clear hg hE hz1 hz2 hbig h1 h2 hb1 hb2 hb3 hn hel hok
    go_enter Tryz.func6, Tryz.ntmps6
    go_wp2_with fail
    refine HAL.out.mono ?_
    rintro e w1 ⟨rfl, hb1⟩
    have HB1 := Lib.hid hb1
    clear hb1
    go_wp2_with fail
    refine (HNA.out w1 HB1.out).mono ?_
    rintro e w2 ⟨rfl, hb2⟩
    have HB2 := Lib.hid (HB1.out.trans (hb2.mono HB1.out.size))
    clear hb2 HAL HNA
    go_wp2_with fail
    clear q1 q2 q3
    go_loopw [7, 9, 35] (fun s b i wr => ∃ j : Nat, j ≤ bl.length ∧ i = .int .i64 (j : Int) ∧ s = .string (bs (gapF (bl.take j))) ∧ wr = w2) (fun s b i _ => bl.length - (intOf i).toNat)
    case atStart => exact ⟨0, by omega, rfl, rfl, rfl⟩
    case round =>
      obtain ⟨j, hj, rfl, rfl, rfl⟩ := hrel
      by_cases hlt : j < bl.length
      · have hlt' : (j : Int) < (bl.length : Int) := by omega
        obtain ⟨b, off, rfl, hc⟩ := byt_cell HRD.out hlt
        have hc := Below.keeps HB2.out _ _ hc
        have hst := gap_step hlt
        have hgl : (gapF (bl.take j)).length = j := by simp only [gapF, List.length_map, List.length_take]; omega
        generalize bl[j] = c at *
        generalize gapF (bl.take j) = acc at *
        have HST := Lib.hid hst
        clear hst
        have hd : c.toNat % 4 < 4 := Nat.mod_lt _ (by omega)
        have HGG := Lib.hid (show ∀ h, (⟨#[32, 9, 10, 13]⟩ : ByteArray)[c.toNat % 4]'h = gapC (c.toNat % 4) from gap_get ⟨_, hd⟩)
        have HLW := Lib.hid (show (gapC (c.toNat % 4)).toNat < 128 from gap_low ⟨c.toNat % 4, hd⟩)
        have HGL := Lib.hid hgl
        clear hgl hd
        repeat (first | go_values | go_skip | go_guarded | go_step | go_upon | go_back)
        rw [dif_pos (by omega)]
        simp only [HGG.out]
        clear HGG
        generalize gapC (c.toNat % 4) = gc at *
        have hcv := fun w => gconv_one gc HLW.out w
        have had := fun w => run_str_add (P := Tryz.prog) w acc [gc] (by rw [HGL.out, List.length_singleton]; have := HBL.out; omega)
        clear hc
        go_wp2_with fail
        go_roundw
        case rel => exact ⟨j + 1, by omega, by go_num, by rw [HST.out], trivial⟩
        all_goals (simp [intOf]; try omega)
      · obtain rfl : j = bl.length := by omega
        rw [List.take_of_length_le (Nat.le_refl _)]
        have HGL : RowKit.Hid ((gapF bl).length ≤ 20) := Lib.hid (by simp only [gapF, List.length_map]; exact HBL.out)
        generalize gapF bl = gg at *
        obtain ⟨U0, hU0, kU0⟩ : ∃ A, A = [60] ++ nm ∧ ∀ w, (Op.stringOp .add ⟨#[60]⟩ (bs nm)).run Tryz.prog w = .ok (.string (bs A)) w := ⟨_, rfl, fun w => run_str_add (P := Tryz.prog) w [60] nm (by have := HNL.out; simp only [List.length_cons, List.length_nil]; omega)⟩
        have lU0 : U0.length ≤ 101 := by rw [hU0]; simp only [List.length_append, List.length_cons, List.length_nil]; have := HNL.out; omega
        obtain ⟨U1, hU1, kU1⟩ : ∃ A, A = U0 ++ [32, 107, 61, 34] ∧ ∀ w, (Op.stringOp .add (bs U0) ⟨#[32, 107, 61, 34]⟩).run Tryz.prog w = .ok (.string (bs A)) w := ⟨_, rfl, fun w => run_str_add (P := Tryz.prog) w U0 [32, 107, 61, 34] (by have := lU0; (try simp only [List.length_cons, List.length_nil]); omega)⟩
        have lU1 : U1.length ≤ 105 := by rw [hU1]; simp only [List.length_append, List.length_cons, List.length_nil]; have := lU0; omega
        obtain ⟨U2, hU2, kU2⟩ : ∃ A, A = U1 ++ ev ∧ ∀ w, (Op.stringOp .add (bs U1) (bs ev)).run Tryz.prog w = .ok (.string (bs A)) w := ⟨_, rfl, fun w => run_str_add (P := Tryz.prog) w U1 ev (by have := HVL.out; have := lU1; (try simp only [List.length_cons, List.length_nil]); omega)⟩
        have lU2 : U2.length ≤ 1305 := by rw [hU2]; simp only [List.length_append, List.length_cons, List.length_nil]; have := HVL.out; have := lU1; omega
        obtain ⟨U3, hU3, kU3⟩ : ∃ A, A = U2 ++ [34, 47, 62] ∧ ∀ w, (Op.stringOp .add (bs U2) ⟨#[34, 47, 62]⟩).run Tryz.prog w = .ok (.string (bs A)) w := ⟨_, rfl, fun w => run_str_add (P := Tryz.prog) w U2 [34, 47, 62] (by have := lU2; (try simp only [List.length_cons, List.length_nil]); omega)⟩
        have lU3 : U3.length ≤ 1308 := by rw [hU3]; simp only [List.length_append, List.length_cons, List.length_nil]; have := lU2; omega
        rw [← hU0, ← hU1, ← hU2, ← hU3] at HP1
        have HCU := Lib.hid (And.intro hU0 lU0)
        clear hU3 lU3 hU2 lU2 hU1 lU1 hU0 lU0 HCU
        obtain ⟨V0, hV0, kV0⟩ : ∃ A, A = [60] ++ nm ∧ ∀ w, (Op.stringOp .add ⟨#[60]⟩ (bs nm)).run Tryz.prog w = .ok (.string (bs A)) w := ⟨_, rfl, fun w => run_str_add (P := Tryz.prog) w [60] nm (by have := HNL.out; simp only [List.length_cons, List.length_nil]; omega)⟩
        have lV0 : V0.length ≤ 101 := by rw [hV0]; simp only [List.length_append, List.length_cons, List.length_nil]; have := HNL.out; omega
        obtain ⟨V1, hV1, kV1⟩ : ∃ A, A = V0 ++ [32] ∧ ∀ w, (Op.stringOp .add (bs V0) ⟨#[32]⟩).run Tryz.prog w = .ok (.string (bs A)) w := ⟨_, rfl, fun w => run_str_add (P := Tryz.prog) w V0 [32] (by have := lV0; (try simp only [List.length_cons, List.length_nil]); omega)⟩
        have lV1 : V1.length ≤ 102 := by rw [hV1]; simp only [List.length_append, List.length_cons, List.length_nil]; have := lV0; omega
        obtain ⟨V2, hV2, kV2⟩ : ∃ A, A = V1 ++ gg ∧ ∀ w, (Op.stringOp .add (bs V1) (bs gg)).run Tryz.prog w = .ok (.string (bs A)) w := ⟨_, rfl, fun w => run_str_add (P := Tryz.prog) w V1 gg (by have := HGL.out; have := lV1; (try simp only [List.length_cons, List.length_nil]); omega)⟩
        have lV2 : V2.length ≤ 122 := by rw [hV2]; simp only [List.length_append, List.length_cons, List.length_nil]; have := HGL.out; have := lV1; omega
        obtain ⟨V3, hV3, kV3⟩ : ∃ A, A = V2 ++ [107] ∧ ∀ w, (Op.stringOp .add (bs V2) ⟨#[107]⟩).run Tryz.prog w = .ok (.string (bs A)) w := ⟨_, rfl, fun w => run_str_add (P := Tryz.prog) w V2 [107] (by have := lV2; (try simp only [List.length_cons, List.length_nil]); omega)⟩
        have lV3 : V3.length ≤ 123 := by rw [hV3]; simp only [List.length_append, List.length_cons, List.length_nil]; have := lV2; omega
        obtain ⟨V4, hV4, kV4⟩ : ∃ A, A = V3 ++ gg ∧ ∀ w, (Op.stringOp .add (bs V3) (bs gg)).run Tryz.prog w = .ok (.string (bs A)) w := ⟨_, rfl, fun w => run_str_add (P := Tryz.prog) w V3 gg (by have := HGL.out; have := lV3; (try simp only [List.length_cons, List.length_nil]); omega)⟩
        have lV4 : V4.length ≤ 143 := by rw [hV4]; simp only [List.length_append, List.length_cons, List.length_nil]; have := HGL.out; have := lV3; omega
        obtain ⟨V5, hV5, kV5⟩ : ∃ A, A = V4 ++ [61] ∧ ∀ w, (Op.stringOp .add (bs V4) ⟨#[61]⟩).run Tryz.prog w = .ok (.string (bs A)) w := ⟨_, rfl, fun w => run_str_add (P := Tryz.prog) w V4 [61] (by have := lV4; (try simp only [List.length_cons, List.length_nil]); omega)⟩
        have lV5 : V5.length ≤ 144 := by rw [hV5]; simp only [List.length_append, List.length_cons, List.length_nil]; have := lV4; omega
        obtain ⟨V6, hV6, kV6⟩ : ∃ A, A = V5 ++ gg ∧ ∀ w, (Op.stringOp .add (bs V5) (bs gg)).run Tryz.prog w = .ok (.string (bs A)) w := ⟨_, rfl, fun w => run_str_add (P := Tryz.prog) w V5 gg (by have := HGL.out; have := lV5; (try simp only [List.length_cons, List.length_nil]); omega)⟩
        have lV6 : V6.length ≤ 164 := by rw [hV6]; simp only [List.length_append, List.length_cons, List.length_nil]; have := HGL.out; have := lV5; omega
        obtain ⟨V7, hV7, kV7⟩ : ∃ A, A = V6 ++ [34] ∧ ∀ w, (Op.stringOp .add (bs V6) ⟨#[34]⟩).run Tryz.prog w = .ok (.string (bs A)) w := ⟨_, rfl, fun w => run_str_add (P := Tryz.prog) w V6 [34] (by have := lV6; (try simp only [List.length_cons, List.length_nil]); omega)⟩
        have lV7 : V7.length ≤ 165 := by rw [hV7]; simp only [List.length_append, List.length_cons, List.length_nil]; have := lV6; omega
        obtain ⟨V8, hV8, kV8⟩ : ∃ A, A = V7 ++ ev ∧ ∀ w, (Op.stringOp .add (bs V7) (bs ev)).run Tryz.prog w = .ok (.string (bs A)) w := ⟨_, rfl, fun w => run_str_add (P := Tryz.prog) w V7 ev (by have := HVL.out; have := lV7; (try simp only [List.length_cons, List.length_nil]); omega)⟩
        have lV8 : V8.length ≤ 1365 := by rw [hV8]; simp only [List.length_append, List.length_cons, List.length_nil]; have := HVL.out; have := lV7; omega
        obtain ⟨V9, hV9, kV9⟩ : ∃ A, A = V8 ++ [34] ∧ ∀ w, (Op.stringOp .add (bs V8) ⟨#[34]⟩).run Tryz.prog w = .ok (.string (bs A)) w := ⟨_, rfl, fun w => run_str_add (P := Tryz.prog) w V8 [34] (by have := lV8; (try simp only [List.length_cons, List.length_nil]); omega)⟩
        have lV9 : V9.length ≤ 1366 := by rw [hV9]; simp only [List.length_append, List.length_cons, List.length_nil]; have := lV8; omega
        obtain ⟨V10, hV10, kV10⟩ : ∃ A, A = V9 ++ gg ∧ ∀ w, (Op.stringOp .add (bs V9) (bs gg)).run Tryz.prog w = .ok (.string (bs A)) w := ⟨_, rfl, fun w => run_str_add (P := Tryz.prog) w V9 gg (by have := HGL.out; have := lV9; (try simp only [List.length_cons, List.length_nil]); omega)⟩
        have lV10 : V10.length ≤ 1386 := by rw [hV10]; simp only [List.length_append, List.length_cons, List.length_nil]; have := HGL.out; have := lV9; omega
        obtain ⟨V11, hV11, kV11⟩ : ∃ A, A = V10 ++ [62, 60, 47] ∧ ∀ w, (Op.stringOp .add (bs V10) ⟨#[62, 60, 47]⟩).run Tryz.prog w = .ok (.string (bs A)) w := ⟨_, rfl, fun w => run_str_add (P := Tryz.prog) w V10 [62, 60, 47] (by have := lV10; (try simp only [List.length_cons, List.length_nil]); omega)⟩
        have lV11 : V11.length ≤ 1389 := by rw [hV11]; simp only [List.length_append, List.length_cons, List.length_nil]; have := lV10; omega
        obtain ⟨V12, hV12, kV12⟩ : ∃ A, A = V11 ++ nm ∧ ∀ w, (Op.stringOp .add (bs V11) (bs nm)).run Tryz.prog w = .ok (.string (bs A)) w := ⟨_, rfl, fun w => run_str_add (P := Tryz.prog) w V11 nm (by have := HNL.out; have := lV11; (try simp only [List.length_cons, List.length_nil]); omega)⟩
        have lV12 : V12.length ≤ 1489 := by rw [hV12]; simp only [List.length_append, List.length_cons, List.length_nil]; have := HNL.out; have := lV11; omega
        obtain ⟨V13, hV13, kV13⟩ : ∃ A, A = V12 ++ gg ∧ ∀ w, (Op.stringOp .add (bs V12) (bs gg)).run Tryz.prog w = .ok (.string (bs A)) w := ⟨_, rfl, fun w => run_str_add (P := Tryz.prog) w V12 gg (by have := HGL.out; have := lV12; (try simp only [List.length_cons, List.length_nil]); omega)⟩
        have lV13 : V13.length ≤ 1509 := by rw [hV13]; simp only [List.length_append, List.length_cons, List.length_nil]; have := HGL.out; have := lV12; omega
        obtain ⟨V14, hV14, kV14⟩ : ∃ A, A = V13 ++ [62] ∧ ∀ w, (Op.stringOp .add (bs V13) ⟨#[62]⟩).run Tryz.prog w = .ok (.string (bs A)) w := ⟨_, rfl, fun w => run_str_add (P := Tryz.prog) w V13 [62] (by have := lV13; (try simp only [List.length_cons, List.length_nil]); omega)⟩
        have lV14 : V14.length ≤ 1510 := by rw [hV14]; simp only [List.length_append, List.length_cons, List.length_nil]; have := lV13; omega
        rw [← hV0, ← hV1, ← hV2, ← hV3, ← hV4, ← hV5, ← hV6, ← hV7, ← hV8, ← hV9, ← hV10, ← hV11, ← hV12, ← hV13, ← hV14] at HP2
        have HCV := Lib.hid (And.intro hV0 lV0)
        clear hV14 lV14 hV13 lV13 hV12 lV12 hV11 lV11 hV10 lV10 hV9 lV9 hV8 lV8 hV7 lV7 hV6 lV6 hV5 lV5 hV4 lV4 hV3 lV3 hV2 lV2 hV1 lV1 hV0 lV0 HCV
        go_wp2_with (first | (go_at_call 25; refine (HES.out wr HB2.out).mono ?_; rintro e w3 ⟨rfl, hb3⟩; have HB3 := Lib.hid (HB2.out.trans (hb3.mono HB2.out.size)); clear hb3) | (go_at_call 28; refine (HP1.out w3 HB3.out).mono ?_; rintro e w4 ⟨s0, p1, n1, c1, p2, n2, c2, s3, rfl, hT4, hb4⟩; have HN4 := Lib.hid (Blk.new w4 28 #[.string ⟨#[]⟩, .slice none 0 0, .slice none 0 0, .string ⟨#[]⟩])) | (refine wpList_store (.tmp 11) (.tmp 56) 28 rfl rfl w4.heap.size 0 _ _ #[.string s0, .slice p1 n1 c1, .slice p2 n2 c2, .string s3] rfl rfl HN4.out ?s0 ?s1 ?s2 ?_))
        case s0 => kernel_rfl
        case s1 => simp [Value.oneCell']
        case s2 => simp
        intro w5 hb5 ho5
        rw [putCells_all #[.string ⟨#[]⟩, .slice none 0 0, .slice none 0 0, .string ⟨#[]⟩] #[.string s0, .slice p1 n1 c1, .slice p2 n2 c2, .string s3] rfl] at hb5
        have hbX := below_alloc1 w4 (.cells #[.string ⟨#[]⟩, .slice none 0 0, .slice none 0 0, .string ⟨#[]⟩] 28)
        have HB5 := Lib.hid (((HB3.out.trans (hb4.mono HB3.out.size)).trans (hbX.mono (Nat.le_trans HB3.out.size hb4.size))).trans (ho5.below (Nat.le_trans HB3.out.size hb4.size)))
        have hT5 := TrC.only3 hT4 ho5
        obtain ⟨g, off, ca, pk, ck, hcs, hk0⟩ := oneAt_cells hT5
        cases hcs
        have HT5 := Lib.hid hT5
        have HA5 := Lib.hid hk0
        have HK5 := Lib.hid hb5
        generalize w4.heap.size = g4 at *
        clear hb5 ho5 hbX hT4 hT5 hb4 HN4 hk0
        clear kU0 kU1 kU2 kU3
        go_wp2_with (first | (go_at_call 28; refine (HP2.out w5 HB5.out).mono ?_; rintro e w6 ⟨t0, q1, m1, d1, q2, m2, d2, t3, rfl, hT6, hb6⟩; have HN6 := Lib.hid (Blk.new w6 28 #[.string ⟨#[]⟩, .slice none 0 0, .slice none 0 0, .string ⟨#[]⟩])) | (refine wpList_store (.tmp 13) (.tmp 83) 28 rfl rfl w6.heap.size 0 _ _ #[.string t0, .slice q1 m1 d1, .slice q2 m2 d2, .string t3] rfl rfl HN6.out ?u0 ?u1 ?u2 ?_))
        case u0 => kernel_rfl
        case u1 => simp [Value.oneCell']
        case u2 => simp
        intro w7 hb7 ho7
        rw [putCells_all #[.string ⟨#[]⟩, .slice none 0 0, .slice none 0 0, .string ⟨#[]⟩] #[.string t0, .slice q1 m1 d1, .slice q2 m2 d2, .string t3] rfl] at hb7
        have hbY := below_alloc1 w6 (.cells #[.string ⟨#[]⟩, .slice none 0 0, .slice none 0 0, .string ⟨#[]⟩] 28)
        have HB7 := Lib.hid (((HB5.out.trans (hb6.mono HB5.out.size)).trans (hbY.mono (Nat.le_trans HB5.out.size hb6.size))).trans (ho7.below (Nat.le_trans HB5.out.size hb6.size)))
        have HT7 := Lib.hid (TrC.only3 hT6 ho7)
        have HU7 := Lib.hid (TrC.only3 (HT5.out.below hb6) ho7)
        have hk6 := HK5.out.below hb6 HK5.out.lt
        have HV7 := Lib.hid (ho7.blk (hk6.below hbY hk6.lt) (by have := hk6.lt; omega))
        have hka : w7.cell? ⟨g, off, none⟩ = some (.string ⟨#[107]⟩) := by
          have hc6 := Below.keeps hb6 _ _ HA5.out
          have hlt := cell_lt hc6
          exact (World.cell?_of_block (ho7.block g (by simp at hlt; omega))).trans (Below.keeps hbY _ _ hc6)
        have HA7 := Lib.hid hka
        have HS7 := Lib.hid (HSA.out _ _ _ _ w7 HU7.out HT7.out)
        have y0 := (HV7.out.cell 0).trans rfl
        have y1 := (HV7.out.cell 1).trans rfl
        have y2 := (HV7.out.cell 2).trans rfl
        have y3 := (HV7.out.cell 3).trans rfl
        have z0 := (hb7.cell 0).trans rfl
        have z1 := (hb7.cell 1).trans rfl
        have z2 := (hb7.cell 2).trans rfl
        have z3 := (hb7.cell 3).trans rfl
        generalize w6.heap.size = g6 at *
        clear hb7 ho7 hbY hT6 hb6 HN6 hk6 hka
        go_wp2_with (go_at_call 29; refine HS7.out.mono ?_; rintro e w8 ⟨rfl, hb8⟩; have HB8 := Lib.hid (HB7.out.trans (hb8.mono HB7.out.size)); have hv8 := HV7.out.below hb8 HV7.out.lt; have hka := Below.keeps hb8 _ _ HA7.out; clear z0 z1 z2 z3 y0 y1 y2 y3; have y1 := (hv8.cell 1).trans rfl; clear hb8 hv8)
        go_ret
        exact ⟨rfl, HB8.out⟩
theorem blanks_ba (E : Nat → Addr) (a b : ByteArray) (bl : List UInt8) (bv : Value) (w : World) (hg : LibG w) (hE : Errs w E) (h1 : a.size ≤ maxLen) (h2 : b.size ≤ maxLen) (hB : Byt w bv bl) :
    Calls Tryz.prog 6 #[.string a, .string b, bv] w (fun e w' => e = .returned (.bool true) ∧ Below w.heap.size w w') := by
  have e1 : a = bs a.data.toList := by
    unfold bs
    rw [show a.data.toList.toArray = a.data from Array.toArray_toList]
  have e2 : b = bs b.data.toList := by
    unfold bs
    rw [show b.data.toList.toArray = b.data from Array.toArray_toList]
  rw [e1, e2]
  exact blanks_any E a.data.toList b.data.toList bl bv w hg hE h1 h2 hB
end Go.Proofs.YtkghpmpmcafhkaaGreatDoor
