/-
  XmlZ: how deep, how many, how long: plainly. No program.
  LawXD: XmlDeep: the walk.
-/
import Derived.Test.YtkghpmpmcafhkaaGreatDoorQG
import Derived.Test.YtkghpmpmcafhkaaGreatDoorLA
import Derived.Deep.DeepCutAuto
import Derived.Deep.CutBlock
namespace Go.Proofs.YtkghpmpmcafhkaaGreatDoor
open Go.RowKit

/-- the error's place; 0: none -/
def kindE (r : Except Nat Tr) : Nat := match r with | .ok _ => 0 | .error n => n
def opensS (d : Nat) : List UInt8 := (List.replicate d [60, 97, 62]).flatten
def endsS (d : Nat) : List UInt8 := (List.replicate d [60, 47, 97, 62]).flatten
theorem deep_kind : ∀ d < 20, kindE (parseE (opensS (d + 1) ++ endsS (d + 1))) = if d + 1 ≤ 12 then 0 else 10 := by decide +kernel
/-- the i-th attribute -/
def atS (i : Nat) : List UInt8 := [32, 120] ++ [UInt8.ofNat (97 + i)] ++ [61, 39, 39]
def atsS (n : Nat) : List UInt8 := (List.range n).flatMap atS
theorem ats_kind : ∀ n < 16, kindE (parseE ([60, 97] ++ atsS n ++ [47, 62])) = if n ≤ 12 then 0 else 3 := by decide +kernel
/-- the element a of a text of so many x -/
def fillT (n : Nat) : Tr := .node [[97]] [] [textK (List.replicate n 120)] []
def fillS (n : Nat) : List UInt8 := [60, 97, 62] ++ List.replicate n 120 ++ [60, 47, 97, 62]
theorem esc_x (v : Bool) : ∀ n : Nat, escF v (List.replicate n 120) = List.replicate n 120
  | 0 => rfl
  | n + 1 => by
    rw [List.replicate_succ, escF_step v _ (by simp)]
    have hd := dec_ascii 120 (List.replicate n 120) (by decide)
    have h120 : (120 : UInt8).toNat = 120 := rfl
    unfold escOne badB
    rw [hd, h120, if_neg (by decide)]
    show (escT 120 v).getD [120] ++ escF v (List.replicate n 120) = _
    rw [esc_x v n]
    cases v <;> rfl
theorem sig_x (n : Nat) : sigB (List.replicate n 120) = true := by
  have := sig_asciis (List.replicate n 120) [] (fun c hc => by rw [(List.mem_replicate.1 hc).2]; decide)
  rw [List.append_nil] at this
  rw [this]
  rfl
theorem fill_wrt (n : Nat) : (fillT n).wrt = fillS n := by
  unfold fillT Tr.wrt
  rw [if_neg (show ¬ ([[97]] : List (List UInt8)).getD 0 [] = [] from by decide), if_neg (by simp)]
  rw [wrtL_cons, wrtL_nil]
  have : (textK (List.replicate n 120)).wrt = List.replicate n 120 := by
    unfold textK Tr.wrt
    rw [if_pos (by decide), esc_x]
  rw [this]
  unfold fillS
  simp
theorem fill_ok (n : Nat) : (fillT n).ok 1 := by
  unfold fillT Tr.ok
  refine ⟨rfl, fun a ha => (by cases ha), ?_⟩
  unfold Tr.okL
  refine ⟨?_, by unfold Tr.okL; trivial⟩
  unfold textK Tr.ok
  exact ⟨rfl, fun a ha => (by cases ha), by unfold Tr.okL; trivial⟩
theorem fill_rgt {n : Nat} (h : 0 < n) : (fillT n).rgt 1 = true := by
  unfold fillT Tr.rgt
  simp only [Bool.and_eq_true, decide_eq_true_eq, beq_iff_eq]
  refine ⟨⟨⟨⟨⟨by omega, by decide⟩, trivial⟩, rfl⟩, by simp⟩, ?_⟩
  unfold Tr.rgtL
  rw [if_neg (by simp [textK, Tr.name, Tr.nm])]
  unfold txtB textK Tr.rgtL
  have : ¬ n = 0 := by omega
  simp [Tr.t, Tr.ats, Tr.ks, sig_x, this]
theorem fill_textE {n : Nat} (h : 0 < n) : textE (fillT n) = if 20000 < n + 7 then 3 else 0 := by
  unfold textE
  rw [fill_rgt h, if_neg (by decide), fill_wrt]
  have : (fillS n).length = n + 7 := by
    unfold fillS
    simp
  rw [this]
theorem fill_parse {n : Nat} (h : 0 < n) : kindE (parseE (fillS n)) = if 20000 < n + 7 then 2 else 0 := by
  have hl : (fillS n).length = n + 7 := by
    unfold fillS
    simp
  split
  · rename_i hn
    unfold parseE
    rw [if_pos (by omega)]
    rfl
  · rename_i hn
    have := parse_wrt (fill_ok n) (by rw [fill_textE h, if_neg hn])
    rw [← fill_wrt, this]
    rfl
end Go.Proofs.YtkghpmpmcafhkaaGreatDoor

namespace Go.Proofs.YtkghpmpmcafhkaaGreatDoor
open Go.RowKit Go.Extern.Stop Go.Stop Go.Extern
attribute [local go_sem] bs_toList
attribute [local irreducible] wpPhi

theorem kind_ok {s : List UInt8} (h : kindE (parseE s) = 0) : exN (parseE s) = 0 := by
  rw [parseE_of] at h ⊢
  split at h
  · cases h
  · rename_i hl
    rw [if_neg hl]
    cases hp : parse1 s with
    | ok y => rfl
    | error k =>
      rw [hp] at h
      rcases parse1_err hp with rfl | rfl <;> cases h
theorem kind_bad {s : List UInt8} {k : Nat} (h : kindE (parseE s) = k) (hk : k ≠ 0) : exN (parseE s) = k + 1 := by
  cases hp : parseE s with
  | ok y => rw [hp] at h; exact absurd h.symm hk
  | error j => rw [hp] at h; subst h; rfl
/-- Parse's answer, its tree left aside -/
theorem parse_n (E : Nat → Addr) (s : List UInt8) (n : Nat) (w : World) (hg : LibG w) (hE : Errs w E) (hs : s.length ≤ maxLen) (h : exN (parseE s) = n) :
    Calls Tryz.prog 28 #[.string (bs s)] w fun e w' => ∃ s0 p1 n1 c1 p2 n2 c2 s3, e = .returned (.tuple #[.agg #[.string s0, .slice p1 n1 c1, .slice p2 n2 c2, .string s3], errV E n]) ∧ Below w.heap.size w w' := by
  have hp := parse_any E s w hg hE hs
  refine hp.mono ?_
  rintro e w' ⟨hb, s0, p1, n1, c1, p2, n2, c2, s3, he, hT⟩
  rw [h] at he
  exact ⟨s0, p1, n1, c1, p2, n2, c2, s3, he, hb⟩
theorem opens_step (j : Nat) : opensS (j + 1) = opensS j ++ [60, 97, 62] := by
  unfold opensS
  rw [List.replicate_succ', List.flatten_append]
  simp
theorem ends_step (j : Nat) : endsS (j + 1) = endsS j ++ [60, 47, 97, 62] := by
  unfold endsS
  rw [List.replicate_succ', List.flatten_append]
  simp
theorem opens_len (j : Nat) : (opensS j).length = 3 * j := by
  induction j with
  | zero => rfl
  | succ j ih => rw [opens_step, List.length_append, ih]; simp; omega
theorem ends_len (j : Nat) : (endsS j).length = 4 * j := by
  induction j with
  | zero => rfl
  | succ j ih => rw [ends_step, List.length_append, ih]; simp; omega
theorem ats_step (j : Nat) : atsS (j + 1) = atsS j ++ atS j := by
  unfold atsS
  rw [List.range_succ, List.flatMap_append]
  simp
theorem ats_len (j : Nat) : (atsS j).length = 6 * j := by
  induction j with
  | zero => rfl
  | succ j ih => rw [ats_step, List.length_append, ih]; simp [atS]; omega
theorem u64_mod (a : Int) : IntKind.u64.wrap a = a % 18446744073709551616 := IntKind.wrap_u64 a
theorem deep_num (a : Int) : ∃ d : Nat, d < 20 ∧ wrap64 (1 + wrap64 ((IntKind.u64.wrap a).tmod 20)) = ((d + 1 : Nat) : Int) := by
  rw [u64_mod]
  have h0 : (0 : Int) ≤ a % 18446744073709551616 := Int.emod_nonneg _ (by omega)
  rw [Int.tmod_eq_emod_of_nonneg h0]
  refine ⟨(a % 18446744073709551616 % 20).toNat, by omega, ?_⟩
  unfold wrap64
  omega
theorem ats_num (a : Int) : ∃ d : Nat, d < 16 ∧ wrap64 ((IntKind.u64.wrap a).tmod 16) = (d : Int) := by
  rw [u64_mod]
  have h0 : (0 : Int) ≤ a % 18446744073709551616 := Int.emod_nonneg _ (by omega)
  rw [Int.tmod_eq_emod_of_nonneg h0]
  refine ⟨(a % 18446744073709551616 % 16).toNat, by omega, ?_⟩
  unfold wrap64
  omega
theorem long_num (a : Int) : ∃ d : Nat, d < 9 ∧ wrap64 (wrap64 ((IntKind.u64.wrap a).tmod 9) - 4) = (d : Int) - 4 := by
  rw [u64_mod]
  have h0 : (0 : Int) ≤ a % 18446744073709551616 := Int.emod_nonneg _ (by omega)
  rw [Int.tmod_eq_emod_of_nonneg h0]
  refine ⟨(a % 18446744073709551616 % 9).toNat, by omega, ?_⟩
  unfold wrap64
  omega
theorem u8Info : (Tryz.prog.info? 5).map (fun i => (i.zero, i.size, i.bytes)) = some (some (.int .u8 0), 1, 1) := by kernel_rfl
theorem make_u8 (w : World) (n : Nat) (hn : n ≤ 20000) : (Instr.makeSlice 64 (.int .i64 (n : Int)) (.int .i64 (n : Int))).run Tryz.prog w = .ok (.slice (some ⟨w.heap.size, 0, none⟩) n n) (w.alloc (.cells (madeCells #[.int .u8 0] n) 5)) := by
  obtain ⟨i8, hi8, hv0, hv1, hv2⟩ := info_parts u8Info
  have h := run_makeSlice (P := Tryz.prog) (w := w) 64 5 i8 (.int .u8 0) Tryz.underlying64 hi8 hv0 .i64 .i64 (n : Int) (n : Int) (by omega) (by omega) (by rw [hv1]; omega) (by rw [hv2]; omega) (by omega)
  rw [h, hv1]
  simp [Value.cells]
theorem fill_tree (w : World) (j : Nat) : TrC (w.alloc (.cells #[.string ⟨#[]⟩, .slice none 0 0, .slice none 0 0, .string (bs (List.replicate j 120))] 28)) (fun _ => True) (fillT j) [.string ⟨#[97]⟩, .slice none 0 0, .slice (some ⟨w.heap.size, 0, none⟩) 1 1, .string ⟨#[]⟩] := by
  have hn := Blk.new w 28 #[.string ⟨#[]⟩, .slice none 0 0, .slice none 0 0, .string (bs (List.replicate j 120))]
  generalize w.alloc (.cells #[.string ⟨#[]⟩, .slice none 0 0, .slice none 0 0, .string (bs (List.replicate j 120))] 28) = w1 at *
  unfold fillT TrC
  refine ⟨none, 0, some ⟨w.heap.size, 0, none⟩, 1, [[.string ⟨#[]⟩, .slice none 0 0, .slice none 0 0, .string (bs (List.replicate j 120))]], rfl, ⟨Nat.le_refl _, by unfold maxLen; omega, .inl rfl, fun _ _ => trivial⟩, ⟨Nat.le_refl _, by unfold maxLen; omega, .inr ⟨w.heap.size, 0, rfl, fun i u hu => ?_⟩, fun _ _ => trivial⟩, ?_⟩
  · rw [Nat.zero_add, hn.cell i]
    have hu' : ([.string ⟨#[]⟩, .slice none 0 0, .slice none 0 0, .string (bs (List.replicate j 120))] : List Value)[i]? = some u := hu
    simpa using hu'
  · unfold TrL
    refine ⟨_, _, rfl, ?_, by unfold TrL; rfl⟩
    unfold textK TrC
    exact ⟨none, 0, none, 0, [], rfl, ⟨Nat.le_refl _, by unfold maxLen; omega, .inl rfl, fun _ _ => trivial⟩, ⟨Nat.le_refl _, by unfold maxLen; omega, .inl rfl, fun _ _ => trivial⟩, by unfold TrL; rfl⟩
set_option maxRecDepth 40000 in
set_option maxHeartbeats 8000000 in
theorem deep_any (E : Nat → Addr) (a b c : Int) (w : World) (hg : LibG w) (hE : Errs w E) :
    Calls Tryz.prog 7 #[.int .i64 a, .int .i64 b, .int .i64 c] w (fun e w' => e = .returned (.bool true) ∧ Below w.heap.size w w') := by
  have HAL := Lib.hid (alive23_any E w hg hE)
  have HG := Lib.hid hg
  have HE := Lib.hid hE
  clear hg hE
  go_enter Tryz.func7, Tryz.ntmps7
  go_wp2_with fail
  refine HAL.out.mono ?_
  rintro e w1 ⟨rfl, hb1⟩
  have HB1 := Lib.hid hb1
  clear hb1 HAL
  go_wp2_with fail
  obtain ⟨d, hd, hA⟩ := deep_num a
  obtain ⟨m, hm, hN⟩ := ats_num b
  obtain ⟨l, hl, hC⟩ := long_num c
  rw [hA, hN, hC]
  generalize IntKind.u64.wrap a = ua
  generalize IntKind.u64.wrap b = ub
  generalize IntKind.u64.wrap c = uc
  clear hA hN hC
  have HD := Lib.hid hd
  have HM := Lib.hid hm
  have HL := Lib.hid hl
  clear hd hm hl
  go_loopw [7, 8, 39] (fun s e i wr => ∃ j : Nat, j ≤ d + 1 ∧ i = .int .i64 (j : Int) ∧ s = .string (bs (opensS j)) ∧ e = .string (bs (endsS j)) ∧ wr = w1) (fun s e i _ => d + 1 - (intOf i).toNat)
  case atStart => exact ⟨0, by omega, rfl, rfl, rfl, rfl⟩
  case round =>
    obtain ⟨j, hj, rfl, rfl, rfl, rfl⟩ := hrel
    by_cases hlt : j < d + 1
    · have hd20 := HD.out
      have hlt' : (j : Int) < ((d + 1 : Nat) : Int) := by omega
      have h1 := opens_len j
      have h2 := ends_len j
      have HO := Lib.hid (opens_step j)
      have HN := Lib.hid (ends_step j)
      generalize opensS j = o1 at *
      generalize endsS j = o2 at *
      have k1 : ∀ w, (Op.stringOp .add (bs o1) ⟨#[60, 97, 62]⟩).run Tryz.prog w = .ok (.string (bs (o1 ++ [60, 97, 62]))) w := fun w => run_str_add (P := Tryz.prog) w o1 [60, 97, 62] (by have := HD.out; simp only [List.length_cons, List.length_nil]; omega)
      have k2 : ∀ w, (Op.stringOp .add (bs o2) ⟨#[60, 47, 97, 62]⟩).run Tryz.prog w = .ok (.string (bs (o2 ++ [60, 47, 97, 62]))) w := fun w => run_str_add (P := Tryz.prog) w o2 [60, 47, 97, 62] (by have := HD.out; simp only [List.length_cons, List.length_nil]; omega)
      clear h1 h2
      go_wp2_with fail
      go_roundw
      case rel => exact ⟨j + 1, by omega, by go_num, by rw [HO.out], by rw [HN.out], trivial⟩
      all_goals (simp [intOf]; try omega)
    · obtain rfl : j = d + 1 := by omega
      have h1 := opens_len (d + 1)
      have h2 := ends_len (d + 1)
      have HK := Lib.hid (deep_kind d HD.out)
      obtain ⟨A, hA, kA⟩ : ∃ A, A = opensS (d + 1) ++ endsS (d + 1) ∧ ∀ w, (Op.stringOp .add (bs (opensS (d + 1))) (bs (endsS (d + 1)))).run Tryz.prog w = .ok (.string (bs A)) w := ⟨_, rfl, fun w => run_str_add (P := Tryz.prog) w _ _ (by have := HD.out; omega)⟩
      have hlA : A.length ≤ 200 := by rw [hA, List.length_append, h1, h2]; have := HD.out; omega
      rw [← hA] at HK
      obtain ⟨n1, hn1⟩ : ∃ n1, exN (parseE A) = n1 := ⟨_, rfl⟩
      have hn2 : n1 = if d + 1 ≤ 12 then 0 else 11 := by
        rw [← hn1]
        have hk := HK.out
        by_cases h12 : d + 1 ≤ 12
        · rw [if_pos h12] at hk ⊢
          exact kind_ok hk
        · rw [if_neg h12] at hk ⊢
          exact kind_bad hk (by omega)
      have HPA := Lib.hid (fun w1 (hb : Below w.heap.size w w1) => parse_n E A n1 w1 (HG.out.below hb) (HE.out.below hb) (by unfold maxLen; omega) hn1)
      have HN2 := Lib.hid hn2
      clear h1 h2 hA hlA HK hn1 hn2
      generalize opensS (d + 1) = o1 at *
      generalize endsS (d + 1) = o2 at *
      go_wp2_with (first | (go_at_call 28; refine (HPA.out wr HB1.out).mono ?_; rintro e w2 ⟨s0, p1, n1', c1, p2, n2, c2, s3, rfl, hb2⟩; have HN2b := Lib.hid (Blk.new w2 28 #[.string ⟨#[]⟩, .slice none 0 0, .slice none 0 0, .string ⟨#[]⟩])) | (refine wpList_store (.tmp 9) (.tmp 51) 28 rfl rfl w2.heap.size 0 _ _ #[.string s0, .slice p1 n1' c1, .slice p2 n2 c2, .string s3] rfl rfl HN2b.out ?s0 ?s1 ?s2 ?_))
      case s0 => kernel_rfl
      case s1 => simp [Value.oneCell']
      case s2 => simp
      intro w3 hb3 ho3
      have hbX := below_alloc1 w2 (.cells #[.string ⟨#[]⟩, .slice none 0 0, .slice none 0 0, .string ⟨#[]⟩] 28)
      have HB3 := Lib.hid (((HB1.out.trans (hb2.mono HB1.out.size)).trans (hbX.mono (Nat.le_trans HB1.out.size hb2.size))).trans (ho3.below (Nat.le_trans HB1.out.size hb2.size)))
      generalize w2.heap.size = g2 at *
      clear hb3 ho3 hbX hb2 HN2b HPA kA
      go_upto_region 11 with fail
      go_cut [66] (fun c wx => c = .bool false ∧ Below w.heap.size w wx)
      case first =>
        by_cases h12 : d + 1 ≤ 12
        · have e1 := HN2.out.trans (if_pos h12)
          clear HN2
          subst e1
          rw [show errV E 0 = Value.nilIface from rfl]
          have hle : (d : Int) + 1 ≤ 12 := by omega
          clear h12
          go_wp2_with fail
          go_meet
          exact ⟨rfl, HB3.out⟩
        · have e1 := HN2.out.trans (if_neg h12)
          clear HN2
          subst e1
          have HNU := Lib.hid (num_any w3 E 11 (by omega) (HE.out.below HB3.out))
          rw [show errV E 11 = .iface 244 (.pointer (some (E 10))) from rfl] at HNU ⊢
          have hle : ¬ (d : Int) + 1 ≤ 12 := by omega
          clear h12
          go_wp2_with (go_at_call 18; refine HNU.out.mono ?_; rintro e w4 ⟨rfl, hb4⟩; have HB4 := Lib.hid (HB3.out.trans (hb4.mono HB3.out.size)); clear hb4)
          go_meet
          exact ⟨rfl, HB4.out⟩
      obtain ⟨rfl, hbc⟩ := hcut
      have HBC := Lib.hid hbc
      clear hbc HB3
      go_wp2_with fail
      clear HN2
      generalize errV E n1 = e10
      go_loopw [11, 12, 68] (fun s v i wr => ∃ j : Nat, j ≤ m ∧ i = .int .i64 (j : Int) ∧ s = .string (bs ([60, 97] ++ atsS j)) ∧ Below w.heap.size w wr) (fun s v i _ => m - (intOf i).toNat)
      case atStart => exact ⟨0, by omega, rfl, rfl, HBC.out⟩
      case round =>
        obtain ⟨k, hk, rfl, rfl, hbw⟩ := hrel
        by_cases hlt2 : k < m
        · have hm16 := HM.out
          have hlt' : (k : Int) < (m : Int) := by omega
          have h1 := ats_len k
          have HST := Lib.hid (ats_step k)
          have HBW := Lib.hid hbw
          clear hbw
          have hcn : ((UInt8.ofNat (97 + k)).toNat : Int) = 97 + (k : Int) := by
            rw [UInt8.toNat_ofNat_of_lt' (by show _ < 256; omega)]
            omega
          have hby := byt_one wr (UInt8.ofNat (97 + k)) 5 (0, 0) _ rfl
          rw [hcn] at hby
          have kc := run_str (P := Tryz.prog) Tryz.underlying64 Tryz.underlying5 Tryz.underlying9 hby
          have HAC := Lib.hid (show [60, 97] ++ atsS (k + 1) = ([60, 97] ++ atsS k) ++ (([32, 120] ++ [UInt8.ofNat (97 + k)]) ++ [61, 39, 39]) by rw [HST.out]; rfl)
          have hla : ([60, 97] ++ atsS k).length ≤ 200 := by rw [List.length_append, h1]; simp only [List.length_cons, List.length_nil]; omega
          have hb1 := below_alloc1 wr (.cells #[.int .u8 (97 + (k : Int))] 5)
          have HB2 := Lib.hid (HBW.out.trans (hb1.mono HBW.out.size))
          clear hcn hby HST h1 hb1
          generalize UInt8.ofNat (97 + k) = ch at *
          obtain ⟨A1, hA1, kA1⟩ : ∃ A, A = [32, 120] ++ [ch] ∧ ∀ w, (Op.stringOp .add ⟨#[32, 120]⟩ (bs [ch])).run Tryz.prog w = .ok (.string (bs A)) w := ⟨_, rfl, fun w => run_str_add (P := Tryz.prog) w [32, 120] [ch] (by simp only [List.length_cons, List.length_nil]; omega)⟩
          have lA1 : A1.length = 3 := by rw [hA1]; rfl
          obtain ⟨A2, hA2, kA2⟩ : ∃ A, A = A1 ++ [61, 39, 39] ∧ ∀ w, (Op.stringOp .add (bs A1) ⟨#[61, 39, 39]⟩).run Tryz.prog w = .ok (.string (bs A)) w := ⟨_, rfl, fun w => run_str_add (P := Tryz.prog) w A1 [61, 39, 39] (by rw [lA1]; simp only [List.length_cons, List.length_nil]; omega)⟩
          have lA2 : A2.length = 6 := by rw [hA2, List.length_append, lA1]; rfl
          generalize hacc : [60, 97] ++ atsS k = acc at *
          obtain ⟨A3, hA3, kA3⟩ : ∃ A, A = acc ++ A2 ∧ ∀ w, (Op.stringOp .add (bs acc) (bs A2)).run Tryz.prog w = .ok (.string (bs A)) w := ⟨_, rfl, fun w => run_str_add (P := Tryz.prog) w acc A2 (by rw [lA2]; omega)⟩
          have HA3 := Lib.hid (show [60, 97] ++ atsS (k + 1) = A3 by rw [HAC.out, hA3, hA2, hA1])
          clear hA1 hA2 hA3 lA1 lA2 hla hacc HAC
          go_wp2_with fail
          go_roundw
          case rel => exact ⟨k + 1, by omega, by go_num, by rw [HA3.out], HB2.out⟩
          all_goals (simp [intOf]; try omega)
        · obtain rfl : k = m := by omega
          have h1 := ats_len k
          have HK := Lib.hid (ats_kind k HM.out)
          have hla : ([60, 97] ++ atsS k).length ≤ 200 := by rw [List.length_append, h1]; have := HM.out; simp only [List.length_cons, List.length_nil]; omega
          obtain ⟨B, hB, kB⟩ : ∃ A, A = ([60, 97] ++ atsS k) ++ [47, 62] ∧ ∀ w, (Op.stringOp .add (bs ([60, 97] ++ atsS k)) ⟨#[47, 62]⟩).run Tryz.prog w = .ok (.string (bs A)) w := ⟨_, rfl, fun w => run_str_add (P := Tryz.prog) w _ [47, 62] (by simp only [List.length_cons, List.length_nil] at *; omega)⟩
          have hlB : B.length ≤ 300 := by rw [hB, List.length_append]; simp only [List.length_cons, List.length_nil]; omega
          rw [← hB] at HK
          obtain ⟨n3, hn3⟩ : ∃ n3, exN (parseE B) = n3 := ⟨_, rfl⟩
          have hn4 : n3 = if k ≤ 12 then 0 else 4 := by
            rw [← hn3]
            have hk := HK.out
            by_cases h12 : k ≤ 12
            · rw [if_pos h12] at hk ⊢
              exact kind_ok hk
            · rw [if_neg h12] at hk ⊢
              exact kind_bad hk (by omega)
          have HPA := Lib.hid (fun w1 (hb : Below w.heap.size w w1) => parse_n E B n3 w1 (HG.out.below hb) (HE.out.below hb) (by unfold maxLen; omega) hn3)
          have HN4 := Lib.hid hn4
          have HBW := Lib.hid hbw
          clear h1 hla hB hlB HK hn3 hn4 hbw HBC
          generalize [60, 97] ++ atsS k = acc at *
          go_wp2_with (first | (go_at_call 28; refine (HPA.out wr HBW.out).mono ?_; rintro e w2 ⟨s0, p1, n1', c1, p2, n2, c2, s3, rfl, hb2⟩; have HN2b := Lib.hid (Blk.new w2 28 #[.string ⟨#[]⟩, .slice none 0 0, .slice none 0 0, .string ⟨#[]⟩])) | (refine wpList_store (.tmp 13) (.tmp 85) 28 rfl rfl w2.heap.size 0 _ _ #[.string s0, .slice p1 n1' c1, .slice p2 n2 c2, .string s3] rfl rfl HN2b.out ?s0 ?s1 ?s2 ?_))
          case s0 => kernel_rfl
          case s1 => simp [Value.oneCell']
          case s2 => simp
          intro w3 hb3 ho3
          have hbX := below_alloc1 w2 (.cells #[.string ⟨#[]⟩, .slice none 0 0, .slice none 0 0, .string ⟨#[]⟩] 28)
          have HB3 := Lib.hid (((HBW.out.trans (hb2.mono HBW.out.size)).trans (hbX.mono (Nat.le_trans HBW.out.size hb2.size))).trans (ho3.below (Nat.le_trans HBW.out.size hb2.size)))
          generalize w2.heap.size = g2 at *
          clear hb3 ho3 hbX hb2 HN2b HPA
          go_upto_region 20 with fail
          go_cut [100] (fun c wx => c = .bool false ∧ Below w.heap.size w wx)
          case first =>
            by_cases h12 : k ≤ 12
            · have e1 := HN4.out.trans (if_pos h12)
              clear HN4
              subst e1
              rw [show errV E 0 = Value.nilIface from rfl]
              have hle : (k : Int) ≤ 12 := by omega
              clear h12
              go_wp2_with fail
              go_meet
              exact ⟨rfl, HB3.out⟩
            · have e1 := HN4.out.trans (if_neg h12)
              clear HN4
              subst e1
              have HNU := Lib.hid (num_any w3 E 4 (by omega) (HE.out.below HB3.out))
              rw [show errV E 4 = .iface 244 (.pointer (some (E 3))) from rfl] at HNU ⊢
              have hle : ¬ (k : Int) ≤ 12 := by omega
              clear h12
              go_wp2_with (go_at_call 18; refine HNU.out.mono ?_; rintro e w4 ⟨rfl, hb4⟩; have HB4 := Lib.hid (HB3.out.trans (hb4.mono HB3.out.size)); clear hb4)
              go_meet
              exact ⟨rfl, HB4.out⟩
          obtain ⟨rfl, hbc⟩ := hcut
          have HBC := Lib.hid hbc
          clear hbc HB3 HN4
          generalize errV E n3 = e14
          obtain ⟨n, hnl⟩ : ∃ n : Nat, n = 19989 + l := ⟨_, rfl⟩
          have hwn : wrap64 (19993 + ((l : Int) - 4)) = (n : Int) := by
            rw [hnl]
            have := HL.out
            unfold wrap64
            omega
          have hmk := make_u8 wc n (by have := HL.out; omega)
          rw [← hwn] at hmk
          have HMK := Lib.hid hmk
          have HNL := Lib.hid hnl
          have HWN := Lib.hid hwn
          clear hmk hnl hwn
          repeat (first | go_values | go_skip | go_guarded | go_step | go_upon | go_back)
          rw [HMK.out, HWN.out]
          clear HMK HWN
          have hn1 := Blk.new wc 5 (madeCells #[.int .u8 0] n)
          have hs1 : ∀ i < n, (madeCells #[.int .u8 0] n)[i]? = some (.int .u8 (if i < 0 then 120 else 0)) := fun i hi => by simp [madeCells, hi, Nat.mod_one]
          have hz1 : (madeCells #[.int .u8 0] n).size = n := by simp [madeCells]
          have hbX := below_alloc1 wc (.cells (madeCells #[.int .u8 0] n) 5)
          have HB1' := Lib.hid (HBC.out.trans (hbX.mono HBC.out.size))
          have HGW := Lib.hid HBC.out.size
          have HR0 : RowKit.Hid (∃ cs : Array Value, Blk (wc.alloc (.cells (madeCells #[.int .u8 0] n) 5)) wc.heap.size 5 cs ∧ cs.size = n ∧ (∀ i < n, cs[i]? = some (.int .u8 (if i < 0 then 120 else 0)))) := Lib.hid ⟨_, hn1, hz1, hs1⟩
          clear hn1 hs1 hz1 hbX
          generalize wc.alloc (.cells (madeCells #[.int .u8 0] n) 5) = w5 at *
          generalize wc.heap.size = g at *
          go_wp2_with fail
          go_loopw [16, 106] (fun v i wr => ∃ (j : Nat) (cs : Array Value), j ≤ n ∧ i = .int .i64 (j : Int) ∧ Blk wr g 5 cs ∧ cs.size = n ∧ (∀ i < n, cs[i]? = some (.int .u8 (if i < j then 120 else 0))) ∧ Below w.heap.size w wr) (fun v i _ => n - (intOf i).toNat)
          case atStart =>
            obtain ⟨cs, h1, h2, h3⟩ := HR0.out
            exact ⟨0, cs, by omega, rfl, h1, h2, h3, HB1'.out⟩
          case round =>
            obtain ⟨j, cs, hj, rfl, hb, hz, hcs, hbw⟩ := hrel
            by_cases hlt3 : j < n
            · have hn2 : n < 20000 := by have := HNL.out; have := HL.out; omega
              have hlt' : (j : Int) < (n : Int) := by omega
              have c0 := (hb.cell j).trans (hcs j hlt3)
              have f0 := hb.frozen j
              have HBS := Lib.hid (hb.set_ j (.int .u8 120))
              have HZS := Lib.hid (show (cs.setIfInBounds j (.int .u8 120)).size = n by rw [Array.size_setIfInBounds, hz])
              have HCS := Lib.hid (show ∀ i < n, (cs.setIfInBounds j (.int .u8 120))[i]? = some (.int .u8 (if i < j + 1 then 120 else 0)) from fun i hi => by
                rw [Array.getElem?_setIfInBounds]
                by_cases hij : j = i
                · subst hij
                  rw [if_pos rfl, if_pos (by omega), if_pos (by omega)]
                · rw [if_neg hij, hcs i hi]
                  by_cases h : i < j
                  · rw [if_pos h, if_pos (by omega)]
                  · rw [if_neg h, if_neg (by omega)])
              have HBB := Lib.hid (hbw.trans (((Only.refl g wr).set_ j (.int .u8 120)).below HGW.out))
              clear hb hz hcs hbw
              go_wp2_with fail
              go_roundw
              case rel => exact ⟨j + 1, _, by omega, by go_num, HBS.out, HZS.out, HCS.out, HBB.out⟩
              all_goals (simp [intOf]; try omega)
            · obtain rfl : j = n := by omega
              have hln : (List.replicate j (120 : UInt8)).length = j := List.length_replicate
              have hn2 : 0 < j ∧ j < 20000 := by have := HNL.out; have := HL.out; omega
              have hby : Byt wr (.slice (some ⟨g, 0, none⟩) j j) (List.replicate j 120) := ⟨some ⟨g, 0, none⟩, j, by rw [hln], by omega, by unfold maxLen; omega, .inr ⟨g, 0, rfl, fun i u hu => by
                have hi : i < j := by
                  have := (List.getElem?_eq_some_iff.1 hu).1
                  rw [bvs_len, hln] at this
                  exact this
                rw [bvs_get _ i (by rw [hln]; exact hi)] at hu
                rw [Nat.zero_add, hb.cell i, hcs i hi, if_pos hi, ← hu, List.getElem_replicate]
                rfl⟩⟩
              have HBY := Lib.hid hby
              have HBW := Lib.hid hbw
              have HLN := Lib.hid hln
              have HN2' := Lib.hid hn2
              have kc := fun (w' : World) (hb : Byt w' (.slice (some ⟨g, 0, none⟩) j j) (List.replicate j 120)) => run_str (P := Tryz.prog) Tryz.underlying64 Tryz.underlying5 Tryz.underlying9 hb
              have kc0 := kc wr hby
              have hpar := fill_parse hn2.1
              have htx := fill_textE hn2.1
              have HOKT := Lib.hid (fill_ok j)
              have hshr : (fillT j).shr := by
                unfold fillT textK
                simp only [Tr.shr, Tr.shrL, shS]
                refine ⟨by simp, by simp, by simp, ⟨by simp, by simp, ?_, trivial⟩, trivial⟩
                show _ ≤ _
                rw [hln]; omega
              obtain ⟨U1, hU1, kU1⟩ : ∃ A, A = [60, 97, 62] ++ List.replicate j 120 ∧ ∀ w, (Op.stringOp .add ⟨#[60, 97, 62]⟩ (bs (List.replicate j 120))).run Tryz.prog w = .ok (.string (bs A)) w := ⟨_, rfl, fun w => run_str_add (P := Tryz.prog) w [60, 97, 62] _ (by rw [hln]; simp only [List.length_cons, List.length_nil]; omega)⟩
              have lU1 : U1.length = j + 3 := by rw [hU1, List.length_append, hln]; simp only [List.length_cons, List.length_nil] <;> omega
              obtain ⟨U2, hU2, kU2⟩ : ∃ A, A = U1 ++ [60, 47, 97, 62] ∧ ∀ w, (Op.stringOp .add (bs U1) ⟨#[60, 47, 97, 62]⟩).run Tryz.prog w = .ok (.string (bs A)) w := ⟨_, rfl, fun w => run_str_add (P := Tryz.prog) w U1 [60, 47, 97, 62] (by rw [lU1]; simp only [List.length_cons, List.length_nil]; omega)⟩
              have lU2 : U2.length = j + 7 := by rw [hU2, List.length_append, lU1]; simp only [List.length_cons, List.length_nil] <;> omega
              have hfs : fillS j = U2 := by rw [hU2, hU1]; rfl
              rw [hfs] at hpar
              obtain ⟨n5, hn5⟩ : ∃ n5, exN (parseE U2) = n5 := ⟨_, rfl⟩
              have hn6 : n5 = if 20000 < j + 7 then 3 else 0 := by
                rw [← hn5]
                by_cases h12 : 20000 < j + 7
                · rw [if_pos h12] at hpar ⊢
                  exact kind_bad hpar (by omega)
                · rw [if_neg h12] at hpar ⊢
                  exact kind_ok hpar
              have hts : textS (fillT j) = if 20000 < j + 7 then [] else U2 := by
                unfold textS
                rw [htx, fill_wrt, hfs]
                by_cases h12 : 20000 < j + 7
                · rw [if_pos h12, if_pos h12, if_neg (by omega)]
                · rw [if_neg h12, if_neg h12, if_pos rfl]
              have HPA := Lib.hid (fun w1 (hb : Below w.heap.size w w1) => parse_n E U2 n5 w1 (HG.out.below hb) (HE.out.below hb) (by unfold maxLen; omega) hn5)
              have HTX := Lib.hid (fun cx w1 (hb : Below w.heap.size w w1) (hT : TrC w1 (fun _ => True) (fillT j) cx) => text_any E (fillT j) _ cx w1 (HG.out.below hb) (HE.out.below hb) HOKT.out hshr hT)
              have h4 : (20000 < j + 7) ↔ 4 < l := by have := HNL.out; omega
              rw [htx, hts] at HTX
              clear hln hn2 hby hbw hb hz hcs hpar htx hshr hU1 hU2 lU1 lU2 hfs hn5 hts HR0 HB1' HBC
              have HKC := Lib.hid kc
              have HH4 := Lib.hid h4
              have HN6 := Lib.hid hn6
              clear kc h4 hn6
              by_cases hbig : 4 < l
              · have e5 := HN6.out.trans (if_pos (HH4.out.2 hbig))
                rw [if_pos (HH4.out.2 hbig), if_pos (HH4.out.2 hbig)] at HTX
                clear HN6 HH4
                subst e5
                have hgt : (0 : Int) < (l : Int) - 4 := by omega
                clear hbig
                go_wp2_with (first | (go_at_call 28; refine (HPA.out wr HBW.out).mono ?_; rintro e w6 ⟨s0, p1, n1', c1, p2, n2, c2, s3, rfl, hb6⟩; have HN2b := Lib.hid (Blk.new w6 28 #[.string ⟨#[]⟩, .slice none 0 0, .slice none 0 0, .string ⟨#[]⟩])) | (refine wpList_store (.tmp 18) (.tmp 120) 28 rfl rfl w6.heap.size 0 _ _ #[.string s0, .slice p1 n1' c1, .slice p2 n2 c2, .string s3] rfl rfl HN2b.out ?s0 ?s1 ?s2 ?_))
                case s0 => kernel_rfl
                case s1 => simp [Value.oneCell']
                case s2 => simp
                intro w7 hb7 ho7
                have hbX := below_alloc1 w6 (.cells #[.string ⟨#[]⟩, .slice none 0 0, .slice none 0 0, .string ⟨#[]⟩] 28)
                have hbr := (hb6.trans (hbX.mono hb6.size)).trans (ho7.below hb6.size)
                have HB7 := Lib.hid (HBW.out.trans (hbr.mono HBW.out.size))
                have kc7 := HKC.out w7 (HBY.out.below hbr)
                have HN8 := Lib.hid (fill_tree w7 j)
                have HB8 := Lib.hid (HB7.out.trans ((below_alloc1 w7 (.cells #[.string ⟨#[]⟩, .slice none 0 0, .slice none 0 0, .string (bs (List.replicate j 120))] 28)).mono HB7.out.size))
                generalize w6.heap.size = g6 at *
                clear hb7 ho7 hbX hb6 HN2b HPA hbr kc0 kU1 kU2
                go_wp2_with fail
                refine (HTX.out _ _ HB8.out HN8.out).mono ?_
                rintro e w9 ⟨rfl, hb9⟩
                have HB9 := Lib.hid (HB8.out.trans (hb9.mono HB8.out.size))
                clear hb9 HTX kc7 HN8
                have HNU := Lib.hid (fun w1 (hb : Below w.heap.size w w1) => num_any w1 E 3 (by omega) (HE.out.below hb))
                rw [show errV E 3 = .iface 244 (.pointer (some (E 2))) from rfl] at HNU ⊢
                rw [show bs [] = ⟨#[]⟩ from rfl]
                go_wp2_with fail
                refine (HNU.out w9 HB9.out).mono ?_
                rintro e wA ⟨rfl, hbA⟩
                have HBA := Lib.hid (HB9.out.trans (hbA.mono HB9.out.size))
                clear hbA
                go_wp2_with fail
                refine (HNU.out wA HBA.out).mono ?_
                rintro e wB ⟨rfl, hbB⟩
                have HBB := Lib.hid (HBA.out.trans (hbB.mono HBA.out.size))
                clear hbB
                go_wp2_with fail
                go_ret
                exact ⟨rfl, HBB.out⟩
              · have e5 := HN6.out.trans (if_neg (fun h => hbig (HH4.out.1 h)))
                rw [if_neg (fun h => hbig (HH4.out.1 h)), if_neg (fun h => hbig (HH4.out.1 h))] at HTX
                clear HN6 HH4
                subst e5
                have hgt : ¬ (0 : Int) < (l : Int) - 4 := by omega
                clear hbig
                go_wp2_with (first | (go_at_call 28; refine (HPA.out wr HBW.out).mono ?_; rintro e w6 ⟨s0, p1, n1', c1, p2, n2, c2, s3, rfl, hb6⟩; have HN2b := Lib.hid (Blk.new w6 28 #[.string ⟨#[]⟩, .slice none 0 0, .slice none 0 0, .string ⟨#[]⟩])) | (refine wpList_store (.tmp 18) (.tmp 120) 28 rfl rfl w6.heap.size 0 _ _ #[.string s0, .slice p1 n1' c1, .slice p2 n2 c2, .string s3] rfl rfl HN2b.out ?s0 ?s1 ?s2 ?_))
                case s0 => kernel_rfl
                case s1 => simp [Value.oneCell']
                case s2 => simp
                intro w7 hb7 ho7
                have hbX := below_alloc1 w6 (.cells #[.string ⟨#[]⟩, .slice none 0 0, .slice none 0 0, .string ⟨#[]⟩] 28)
                have hbr := (hb6.trans (hbX.mono hb6.size)).trans (ho7.below hb6.size)
                have HB7 := Lib.hid (HBW.out.trans (hbr.mono HBW.out.size))
                have kc7 := HKC.out w7 (HBY.out.below hbr)
                have HN8 := Lib.hid (fill_tree w7 j)
                have HB8 := Lib.hid (HB7.out.trans ((below_alloc1 w7 (.cells #[.string ⟨#[]⟩, .slice none 0 0, .slice none 0 0, .string (bs (List.replicate j 120))] 28)).mono HB7.out.size))
                generalize w6.heap.size = g6 at *
                clear hb7 ho7 hbX hb6 HN2b HPA hbr kc0 kU1 kU2
                go_wp2_with fail
                refine (HTX.out _ _ HB8.out HN8.out).mono ?_
                rintro e w9 ⟨rfl, hb9⟩
                have HB9 := Lib.hid (HB8.out.trans (hb9.mono HB8.out.size))
                clear hb9 HTX kc7 HN8
                rw [show errV E 0 = Value.nilIface from rfl]
                go_wp2_with fail
                go_ret
                exact ⟨rfl, HB9.out⟩
end Go.Proofs.YtkghpmpmcafhkaaGreatDoor
