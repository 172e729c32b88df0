/-
  RefIds: which activities are right, as the document says it (for seats without package scope).
  LetterF: the document's answer which messages are right.
  LetterG: the document's bytes of a message.
  LetterH: the document's answer which message bytes are.
-/
import Derived.Test.YtpbgappggmcmgaaDoorIdsA
import Derived.IntWalk
import Derived.Test.YtpbgappggmcmgaaDoorLetterE3
import Derived.Test.YtpbgappggmcmgaaDoorRefNum
import Derived.Test.YtpbgappggmcmgaaDoorRefJoin
import Derived.Test.YtpbgappggmcmgaaDoorLetterD
import Derived.Test.YtpbgappggmcmgaaDoorRefSplit
import Derived.Laws.MakeOwn
namespace Go.Proofs.YtpbgappggmcmgaaDoor
open Go.RowKit Go.Extern.Stop Go.Stop Go.Extern

theorem actT_isSome (x y : Int) : (actT x y).isSome = (decide (0 ≤ x) && decide (x < 4) && decide (0 ≤ y) && decide (y < 1000000)) := by
  unfold actT numT
  by_cases h1 : 0 ≤ x ∧ x ≤ 3
  · rw [if_pos h1]
    by_cases h2 : 0 ≤ y ∧ y ≤ 999999
    · rw [if_pos h2]
      simp only [Option.bind_some, Option.map_some, Option.isSome_some]
      symm
      simp only [Bool.and_eq_true, decide_eq_true_eq]
      omega
    · rw [if_neg h2]
      symm
      simp only [Option.bind_some, Option.map_none, Option.isSome_none, Bool.and_eq_false_iff, decide_eq_false_iff_not]
      omega
  · rw [if_neg h1]
    symm
    simp only [Option.bind_none, Option.isSome_none, Bool.and_eq_false_iff, decide_eq_false_iff_not]
    omega
theorem refright_any (x y : Int) (w : World) : Calls Tryd.prog 33 #[actV x y] w fun e w' => e = .returned (.bool (actT x y).isSome) ∧ Below w.heap.size w w' := by
  have HX := Lib.hid (actT_isSome x y)
  have hn := Blk.new w 23 #[.int .i64 x, .int .i64 y]
  have HB := Lib.hid (below_alloc1 w (.cells #[.int .i64 x, .int .i64 y] 23))
  have c0 := (hn.cell 0).trans rfl
  have c1 := (hn.cell 1).trans rfl
  clear hn
  unfold actV
  generalize ho : (actT x y).isSome = o at *
  clear ho
  cases h1 : decide (0 ≤ x) <;> cases h2 : decide (x < 4) <;> cases h3 : decide (0 ≤ y) <;> cases h4 : decide (y < 1000000) <;> rw [h1, h2, h3, h4] at HX
  all_goals
    obtain rfl : o = _ := HX.out
    clear HX
    go_enter Tryd.func33, Tryd.ntmps33
    go_wp2_with fail
    go_ret
    exact ⟨rfl, HB.out⟩
end Go.Proofs.YtpbgappggmcmgaaDoor

namespace Go.Proofs.YtpbgappggmcmgaaDoor
open Go.RowKit Go.Extern.Stop Go.Stop Go.Extern

theorem right_iff (k f t r p q c ai : Int) :
    (inR k 1 19 && inR f 0 3 && inR t 0 3 && decide (ai = 1) && inR r 0 (regH k) && inR p 0 7 && inR q (protL k) (protH k) && inR c (codesL k) (codesH k)) = true ↔
    ((1 ≤ k ∧ k ≤ 19) ∧ (0 ≤ f ∧ f ≤ 3) ∧ (0 ≤ t ∧ t ≤ 3) ∧ ai = 1 ∧ (0 ≤ r ∧ r ≤ 5 ∧ (k = 17 → r = 0)) ∧ (0 ≤ p ∧ p ≤ 7) ∧ ((k = 17 ∨ k = 18) → 1 ≤ q ∧ q ≤ 2) ∧ (k ≠ 17 ∧ k ≠ 18 → q = 0) ∧ (k = 19 → 1 ≤ c ∧ c ≤ 5) ∧ (k = 16 → 1 ≤ c ∧ c ≤ 14) ∧ (k ≠ 19 ∧ k ≠ 16 → c = 0)) := by
  unfold inR regH protL protH codesL codesH
  simp only [Bool.and_eq_true, decide_eq_true_eq]
  by_cases h1 : k = 17
  · subst h1; simp; omega
  · by_cases h2 : k = 18
    · subst h2; simp; omega
    · by_cases h3 : k = 19
      · subst h3; simp; omega
      · by_cases h4 : k = 16
        · subst h4; simp; omega
        · simp [h1, h2, h3, h4]; omega
set_option maxRecDepth 20000 in
set_option maxHeartbeats 4000000 in
theorem mright_any (m : Msg) (w : World) :
    Calls Tryd.prog 16 #[msgV m] w fun e w' => e = .returned (.bool (rightM m)) ∧ Below w.heap.size w w' := by
  unfold rightM msgV actOk
  obtain ⟨k, f, t, n, s, r, p, q, c⟩ := m
  simp only
  have HA := Lib.hid (fun w' => refright_any n s w')
  unfold actV at HA
  generalize (actT n s).isSome = av at *
  obtain ⟨ai, rfl⟩ : ∃ ai : Int, av = decide (ai = 1) := ⟨if av then 1 else 0, by cases av <;> rfl⟩
  obtain ⟨z, hz⟩ : ∃ z, z = (inR k 1 19 && inR f 0 3 && inR t 0 3 && decide (ai = 1) && inR r 0 (regH k) && inR p 0 7 && inR q (protL k) (protH k) && inR c (codesL k) (codesH k)) := ⟨_, rfl⟩
  have hif := right_iff k f t r p q c ai
  rw [← hz] at hif ⊢
  have HIF := Lib.hid hif
  clear hif hz
  have B := Lib.hid (below_alloc1 w (.cells #[.int .i64 k, .int .i64 f, .int .i64 t, .int .i64 n, .int .i64 s, .int .i64 r, .int .i64 p, .int .i64 q, .int .i64 c] 25))
  have N := Lib.hid (Blk.new w 25 #[.int .i64 k, .int .i64 f, .int .i64 t, .int .i64 n, .int .i64 s, .int .i64 r, .int .i64 p, .int .i64 q, .int .i64 c])
  have n0 := (N.out.cell 0).trans rfl
  have n1 := (N.out.cell 1).trans rfl
  have n2 := (N.out.cell 2).trans rfl
  have n3 := (N.out.cell 3).trans rfl
  have n4 := (N.out.cell 4).trans rfl
  have n5 := (N.out.cell 5).trans rfl
  have n6 := (N.out.cell 6).trans rfl
  have n7 := (N.out.cell 7).trans rfl
  have n8 := (N.out.cell 8).trans rfl
  go_enter Tryd.func16, Tryd.ntmps16
  go_wp2_with (go_at_call 33; refine (HA.out _).mono ?_; rintro e w' ⟨rfl, hb⟩; have B' := Lib.hid (B.out.trans (hb.mono B.out.size)); have N' := Lib.hid (N.out.below hb N.out.lt); clear n0 n1 n2 n3 n4 n5 n6 n7 n8 hb B N; have n0 := (N'.out.cell 0).trans rfl; have n1 := (N'.out.cell 1).trans rfl; have n2 := (N'.out.cell 2).trans rfl; have n3 := (N'.out.cell 3).trans rfl; have n4 := (N'.out.cell 4).trans rfl; have n5 := (N'.out.cell 5).trans rfl; have n6 := (N'.out.cell 6).trans rfl; have n7 := (N'.out.cell 7).trans rfl; have n8 := (N'.out.cell 8).trans rfl; have B := Lib.hid B'.out; have N := Lib.hid N'.out; clear B' N')
  all_goals
    go_ret
    refine ⟨congrArg (fun z => Ending.returned (Value.bool z)) ?_, B.out⟩
    rw [Bool.eq_iff_iff, HIF.out]
    try simp only [Bool.false_eq_true, true_iff, false_iff, decide_eq_true_eq, beq_iff_eq, Bool.and_eq_true, Bool.or_eq_true, Bool.not_eq_true']
    clear HA N
    first | omega | (simp only [beq_eq_false_iff_ne, beq_iff_eq, ne_eq] at *; omega)
end Go.Proofs.YtpbgappggmcmgaaDoor

namespace Go.Proofs.YtpbgappggmcmgaaDoor
open Go.RowKit Go.Extern.Stop Go.Stop Go.Extern

/-- numbers in a block of their own -/
def Ints9 (w : World) (l : List Int) (e : Ending) (w' : World) : Prop := ∃ g, e = .returned (.slice (some ⟨g, 0, none⟩) 9 9) ∧ Blk w' g 3 (ivL l) ∧ Below w.heap.size w w'
set_option maxRecDepth 20000 in
set_option maxHeartbeats 4000000 in
theorem numbers_any (m : Msg) (w : World) : Calls Tryd.prog 40 #[msgV m] w (Ints9 w m.l) := by
  unfold msgV
  have B := Lib.hid (below_alloc (below_alloc1 w (.cells #[.int .i64 m.k, .int .i64 m.f, .int .i64 m.t, .int .i64 m.n, .int .i64 m.s, .int .i64 m.r, .int .i64 m.p, .int .i64 m.q, .int .i64 m.c] 25)) (.cells (ivL m.l) 3))
  have N := Lib.hid (Blk.new w 25 #[.int .i64 m.k, .int .i64 m.f, .int .i64 m.t, .int .i64 m.n, .int .i64 m.s, .int .i64 m.r, .int .i64 m.p, .int .i64 m.q, .int .i64 m.c])
  have n0 := (N.out.cell 0).trans rfl
  have n1 := (N.out.cell 1).trans rfl
  have n2 := (N.out.cell 2).trans rfl
  have n3 := (N.out.cell 3).trans rfl
  have n4 := (N.out.cell 4).trans rfl
  have n5 := (N.out.cell 5).trans rfl
  have n6 := (N.out.cell 6).trans rfl
  have n7 := (N.out.cell 7).trans rfl
  have n8 := (N.out.cell 8).trans rfl
  have M := Lib.hid (show Blk ((w.alloc (.cells #[.int .i64 m.k, .int .i64 m.f, .int .i64 m.t, .int .i64 m.n, .int .i64 m.s, .int .i64 m.r, .int .i64 m.p, .int .i64 m.q, .int .i64 m.c] 25)).alloc (.cells (ivL m.l) 3)) (w.heap.size + 1) 3 (ivL m.l) from by
    have := Blk.new (w.alloc (.cells #[.int .i64 m.k, .int .i64 m.f, .int .i64 m.t, .int .i64 m.n, .int .i64 m.s, .int .i64 m.r, .int .i64 m.p, .int .i64 m.q, .int .i64 m.c] 25)) 3 (ivL m.l)
    rwa [World.size_alloc] at this)
  go_enter Tryd.func40, Tryd.ntmps40
  go_wp2_with fail
  go_ret
  exact ⟨_, rfl, M.out, B.out⟩
theorem numb_ref (x : Int) (h : 0 ≤ x) : ∃ n : Nat, x = (n : Int) := ⟨x.toNat, by omega⟩
set_option maxRecDepth 20000 in
set_option maxHeartbeats 4000000 in
theorem refencode_any (m : Msg) (hr : rightM m = true) (w : World) : Calls Tryd.prog 19 #[msgV m] w (Bytes1 w (encL m)) := by
  have HNM := Lib.hid (fun w' => numbers_any m w')
  have HN := Lib.hid (right_nums hr)
  have HL := Lib.hid (show encL m = joinL (tagRow 0 m.l) by unfold encL; rw [if_pos hr])
  have HRR := Lib.hid (row_right hr)
  have hlen : m.l.length = 9 := rfl
  obtain ⟨i0, hi, hz0, hz1, hz2⟩ := info_parts fldInfo
  have B := Lib.hid (below_alloc (below_alloc1 w (.cells #[.int .i64 m.k, .int .i64 m.f, .int .i64 m.t, .int .i64 m.n, .int .i64 m.s, .int .i64 m.r, .int .i64 m.p, .int .i64 m.q, .int .i64 m.c] 25)) (.cells #[] 57))
  have N := Lib.hid (((Blk.new w 25 #[.int .i64 m.k, .int .i64 m.f, .int .i64 m.t, .int .i64 m.n, .int .i64 m.s, .int .i64 m.r, .int .i64 m.p, .int .i64 m.q, .int .i64 m.c]).alloc (.cells #[] 57)))
  have OW := Lib.hid (World.ownsRow_lit (base := w.heap.size) (e := 57) (size := 2) (w.alloc (.cells #[.int .i64 m.k, .int .i64 m.f, .int .i64 m.t, .int .i64 m.n, .int .i64 m.s, .int .i64 m.r, .int .i64 m.p, .int .i64 m.q, .int .i64 m.c] 25)) #[] 0 (below_alloc1 w _).size (by unfold maxLen; omega) rfl)
  have n0 := (N.out.cell 0).trans rfl
  have n1 := (N.out.cell 1).trans rfl
  have n2 := (N.out.cell 2).trans rfl
  have n3 := (N.out.cell 3).trans rfl
  have n4 := (N.out.cell 4).trans rfl
  have n5 := (N.out.cell 5).trans rfl
  have n6 := (N.out.cell 6).trans rfl
  have n7 := (N.out.cell 7).trans rfl
  have n8 := (N.out.cell 8).trans rfl
  clear hr
  unfold msgV at HNM ⊢
  go_enter Tryd.func19, Tryd.ntmps19
  go_wp2_with fail
  refine (HNM.out _).mono ?_
  rintro e w1 ⟨g, rfl, hg, hb⟩
  have B1 := Lib.hid (B.out.trans (hb.mono B.out.size))
  have OW1 := Lib.hid (owns_below OW.out hb)
  have HB := Lib.hid hg
  clear hb hg B N OW n0 n1 n2 n3 n4 n5 n6 n7 n8 HNM
  generalize m.l = l at *
  go_wp2_with fail
  go_loopw [3, 10] (fun o i wr => ∃ k : Nat, k ≤ 9 ∧ i = .int .i64 k ∧ OutF wr w.heap.size o (tagRow 0 (l.take k)) ∧ Below w.heap.size w wr ∧ Blk wr g 3 (ivL l)) (fun _ i _ => 9 - (intOf i).toNat)
  case atStart =>
    exact ⟨0, by omega, rfl, ⟨[], rfl, by simpa [fcells, tagRow] using OW1.out, by simp [tagRow]⟩, B1.out, HB.out⟩
  case round =>
    obtain ⟨k, hk, rfl, hout, hbw, hg⟩ := hrel
    have HGB := Lib.hid hg
    clear hg
    by_cases hlt : k < 9
    · have hkl : k < l.length := by omega
      have hc : wr.cell? ⟨g, k, none⟩ = some (.int .i64 l[k]) := by
        rw [HGB.out.cell k]; exact ivL_get l k hkl
      have hstep := Lib.hid (tagRow_take l k hkl)
      have hx := HN.out l[k] (List.getElem_mem hkl)
      have HO := Lib.hid hout
      clear hout
      generalize l[k] = x at *
      by_cases h0 : x = 0
      · have d1 : (x == 0) = true := by simpa using h0
        go_wp2_with fail
        go_roundw
        case rel => exact ⟨k + 1, by omega, by go_num, by rw [hstep.out, if_pos h0, List.append_nil]; exact HO.out, hbw, HGB.out⟩
        case measure => simp [intOf]; omega
      · have d1 : (x == 0) = false := by simpa using h0
        obtain ⟨n, rfl⟩ := numb_ref x hx.1
        have hn8 := numB_len8 hx.2
        rw [Int.toNat_natCast] at hn8
        go_wp2_with fail
        refine (refnumber_any n wr (by omega)).mono ?_
        rintro e w2 ⟨v, rfl, ho2, hb2⟩
        have hbw2 := hbw.trans (hb2.mono hbw.size)
        have HO2 := Lib.hid (OutF.below HO.out hb2)
        have HG2 := Lib.hid (HGB.out.below hb2 HGB.out.lt)
        obtain ⟨p, c, rfl, hp1, hp2, hp3⟩ := owns_rd ho2
        have HD := Lib.hid (owns_lower ho2 hbw.size)
        clear hc hb2 hp1 hp2 hp3 ho2
        obtain ⟨us, hus, hown, hel⟩ := HO2.out
        obtain ⟨po, co, rfl, _, _, _⟩ := owns_rd hown
        have HEL := Lib.hid hel
        have hown4 := owns_below hown (below_alloc1 w2 (.cells #[.int .i64 ((k : Int) + 1), .slice p (numB n).length c] 57))
        have hs3 := (below_alloc hbw2 (.cells #[.int .i64 ((k : Int) + 1), .slice p (numB n).length c] 57)).size
        have htl : (tagRow 0 (l.take k)).length ≤ 9 := Nat.le_trans (tagRow_len _ _) (by rw [List.length_take]; omega)
        have hst2 : tagRow 0 (l.take (k + 1)) = tagRow 0 (l.take k) ++ [((k : Int) + 1, numB n)] := by rw [hstep.out, if_neg h0, Int.toNat_natCast]
        have HST := Lib.hid hst2
        clear hown hel hstep hst2
        generalize numB n = dd at *
        go_wp2_with (at_builtin; refine wpList_app (.tmp 17) (.tmp 23) 49 rfl rfl w.heap.size 57 i0 (.agg #[.int .i64 0, .slice none 0 0]) 2 32 Tryd.underlying49 hi hz0 hz1 hz2 rfl (by decide) _ _ _ rfl hown4 _ _ _ [.int .i64 ((k : Int) + 1), .slice p dd.length c] rfl rfl (rd_at _ #[_, _] _ _ _ rfl) ?b1 ?b2 ?b3 hs3 ?_)
        case b1 => first | exact ⟨rfl, rfl⟩ | simp [Value.oneCell']
        case b2 => unfold maxLen; omega
        case b3 => omega
        intro v4 w4 ho4 hg4
        have hal4 := below_alloc1 w2 (.cells #[.int .i64 ((k : Int) + 1), .slice p dd.length c] 57)
        have hbw4 := (below_alloc hbw2 (.cells #[.int .i64 ((k : Int) + 1), .slice p dd.length c] 57)).grown hg4 hs3 (fun j hj => (hown4.lt j hj).1)
        have HO4 := Lib.hid (show OutF w4 w.heap.size v4 (tagRow 0 (l.take k) ++ [((k : Int) + 1, dd)]) from by
          refine OutF.add (f := ((k : Int) + 1, dd)) hus ho4 hown4 hg4 (fun i f hf => ?_) ?_
          · obtain ⟨u, hu, ho⟩ := HEL.out i f hf
            exact ⟨u, hu, owns_below ho hal4⟩
          · exact owns_below HD.out hal4)
        have HG4 := Lib.hid (grown_blk hg4 hown4 (HG2.out.alloc (.cells #[.int .i64 ((k : Int) + 1), .slice p dd.length c] 57)) (by decide))
        clear hown4 ho4 hg4 hal4 hs3
        go_wp2_with fail
        go_roundw
        case rel => exact ⟨k + 1, by omega, by go_num, by rw [HST.out]; exact HO4.out, hbw4, HG4.out⟩
        case measure => simp [intOf]; omega
    · obtain rfl : k = 9 := by omega
      have hl9 : l.take 9 = l := List.take_of_length_le (by omega)
      rw [hl9] at hout
      have HF := Lib.hid hout.fld
      obtain ⟨us, hus, hown, hel⟩ := hout
      obtain ⟨po, co, rfl, _, _, _⟩ := owns_rd hown
      clear hown hel hus
      go_wp2_with fail
      refine (refjoin_any _ (tagRow 0 l) wr HF.out HRR.out).mono ?_
      rintro e w2 ⟨p, c, rfl, hy, hb2⟩
      have B2 := Lib.hid (hbw.trans (hb2.mono hbw.size))
      have HY := Lib.hid hy
      clear hb2 hy
      go_wp2_with fail
      go_ret
      rw [HL.out]
      exact ⟨p, c, rfl, HY.out, B2.out⟩
end Go.Proofs.YtpbgappggmcmgaaDoor

namespace Go.Proofs.YtpbgappggmcmgaaDoor
open Go.RowKit Go.Extern.Stop Go.Stop Go.Extern

theorem intInfo9 : (Tryd.prog.info? 3).map (fun i => (i.zero, i.size, i.bytes)) = some (some (.int .i64 0), 1, 8) := by kernel_rfl
theorem make9 (w : World) : (Instr.makeSlice 72 (.int .i64 9) (.int .i64 9)).run Tryd.prog w = .ok (.slice (some ⟨w.heap.size, 0, none⟩) 9 9) (w.alloc (.cells (ivL (List.replicate 9 0)) 3)) := by
  obtain ⟨i0, hi, hz0, hz1, hz2⟩ := info_parts intInfo9
  have h := run_makeSlice (P := Tryd.prog) w 72 3 i0 (.int .i64 0) Tryd.underlying72 hi hz0 .i64 .i64 9 9 (by omega) (by omega) (by rw [hz1]; decide) (by rw [hz2]; decide) (by omega)
  have hm : madeCells (Value.int .i64 0).cells (Int.toNat 9 * i0.size) = ivL (List.replicate 9 0) := by
    rw [hz1]
    show madeCells #[.int .i64 0] 9 = ivL [0, 0, 0, 0, 0, 0, 0, 0, 0]
    simp [madeCells, ivL, show Array.range 9 = #[0, 1, 2, 3, 4, 5, 6, 7, 8] from by decide]
  rw [h, hm]
  rfl
def PNewH (B : Nat) : Part := ⟨fun v => ∃ g, v = .pointer (some ⟨g, 0, none⟩), fun w v => ∀ g, v = .pointer (some ⟨g, 0, none⟩) → B < g ∧ Blk w g 25 #[.int .i64 0, .int .i64 0, .int .i64 0, .int .i64 0, .int .i64 0, .int .i64 0, .int .i64 0, .int .i64 0, .int .i64 0]⟩
set_option maxRecDepth 20000 in
set_option maxHeartbeats 4000000 in
theorem refdecode_any (b : List UInt8) (v : Value) (w : World) (hy : Byt w v b) (hbl : b.length ≤ 2000) :
    Calls Tryd.prog 21 #[v] w fun e w' => e = .returned (.tuple #[msgV (decM b), .int .i64 (decE b : Int)]) ∧ Below w.heap.size w w' := by
  obtain ⟨p, c, rfl, _, _, _⟩ := id hy
  have hmk := fun w => make9 w
  have HSP := Lib.hid (fun w' (hy : Byt w' (.slice p b.length c) b) => refsplit_any w' (.slice p b.length c) b hy (by omega))
  have B := Lib.hid (below_alloc (below_alloc1 w (.cells #[.int .i64 0, .int .i64 0, .int .i64 0, .int .i64 0, .int .i64 0, .int .i64 0, .int .i64 0, .int .i64 0, .int .i64 0] 25)) (.cells #[.int .i64 0, .int .i64 0, .int .i64 0, .int .i64 0, .int .i64 0, .int .i64 0, .int .i64 0, .int .i64 0, .int .i64 0] 25))
  have M := Lib.hid ((Blk.new w 25 #[.int .i64 0, .int .i64 0, .int .i64 0, .int .i64 0, .int .i64 0, .int .i64 0, .int .i64 0, .int .i64 0, .int .i64 0]).alloc (.cells #[.int .i64 0, .int .i64 0, .int .i64 0, .int .i64 0, .int .i64 0, .int .i64 0, .int .i64 0, .int .i64 0, .int .i64 0] 25))
  have O := Lib.hid (show Blk ((w.alloc (.cells #[.int .i64 0, .int .i64 0, .int .i64 0, .int .i64 0, .int .i64 0, .int .i64 0, .int .i64 0, .int .i64 0, .int .i64 0] 25)).alloc (.cells #[.int .i64 0, .int .i64 0, .int .i64 0, .int .i64 0, .int .i64 0, .int .i64 0, .int .i64 0, .int .i64 0, .int .i64 0] 25)) (w.heap.size + 1) 25 #[.int .i64 0, .int .i64 0, .int .i64 0, .int .i64 0, .int .i64 0, .int .i64 0, .int .i64 0, .int .i64 0, .int .i64 0] from by
    have := Blk.new (w.alloc (.cells #[.int .i64 0, .int .i64 0, .int .i64 0, .int .i64 0, .int .i64 0, .int .i64 0, .int .i64 0, .int .i64 0, .int .i64 0] 25)) 25 #[.int .i64 0, .int .i64 0, .int .i64 0, .int .i64 0, .int .i64 0, .int .i64 0, .int .i64 0, .int .i64 0, .int .i64 0]
    rwa [World.size_alloc] at this)
  have HY := Lib.hid (hy.keep (Below.keeps B.out))
  clear hy
  by_cases hlen : 1000 < b.length
  · have d1 : decide (1000 < (b.length : Int)) = true := by simp; omega
    have d1' : decide (1000 < b.length) = true := by simp; omega
    have HR := Lib.hid (show decE b = 3 ∧ decM b = msg0 by unfold decE decM; rw [if_pos hlen, if_pos hlen]; exact ⟨rfl, rfl⟩)
    clear hlen hmk HSP
    go_enter Tryd.func21, Tryd.ntmps21
    have m0 := (O.out.cell 0).trans rfl
    have m1 := (O.out.cell 1).trans rfl
    have m2 := (O.out.cell 2).trans rfl
    have m3 := (O.out.cell 3).trans rfl
    have m4 := (O.out.cell 4).trans rfl
    have m5 := (O.out.cell 5).trans rfl
    have m6 := (O.out.cell 6).trans rfl
    have m7 := (O.out.cell 7).trans rfl
    have m8 := (O.out.cell 8).trans rfl
    go_wp2_with (refine wpList_store (.tmp 2) (.tmp 17) 25 rfl rfl w.heap.size 0 _ _ #[.int .i64 0, .int .i64 0, .int .i64 0, .int .i64 0, .int .i64 0, .int .i64 0, .int .i64 0, .int .i64 0, .int .i64 0] rfl rfl M.out (by kernel_rfl) (by simp [Value.oneCell']) (by simp) ?_)
    intro w8 hn8 ko8
    have h8 : Blk w8 w.heap.size 25 #[.int .i64 0, .int .i64 0, .int .i64 0, .int .i64 0, .int .i64 0, .int .i64 0, .int .i64 0, .int .i64 0, .int .i64 0] := hn8
    have q0 := (h8.cell 0).trans rfl
    have q1 := (h8.cell 1).trans rfl
    have q2 := (h8.cell 2).trans rfl
    have q3 := (h8.cell 3).trans rfl
    have q4 := (h8.cell 4).trans rfl
    have q5 := (h8.cell 5).trans rfl
    have q6 := (h8.cell 6).trans rfl
    have q7 := (h8.cell 7).trans rfl
    have q8 := (h8.cell 8).trans rfl
    have B8 := Lib.hid (B.out.trans (ko8.below (Nat.le_refl _)))
    clear hn8 ko8 h8
    go_wp2_with fail
    refine bodyPost_ret (v := .tuple #[.agg #[.int .i64 0, .int .i64 0, .int .i64 0, .int .i64 0, .int .i64 0, .int .i64 0, .int .i64 0, .int .i64 0, .int .i64 0], .int .i64 3]) (by simp [results, Tryd.results21, go_sem, q0, q1, q2, q3, q4, q5, q6, q7, q8]) rfl ?_
    exact ⟨by rw [HR.out.1, HR.out.2]; rfl, B8.out⟩
  · have d1 : decide (1000 < (b.length : Int)) = false := by simp; omega
    have d1' : decide (1000 < b.length) = false := by simp; omega
    have HR := Lib.hid (show decE b = decBE b ∧ decM b = decBM b by unfold decE decM; rw [if_neg hlen, if_neg hlen]; exact ⟨rfl, rfl⟩)
    clear hlen
    go_enter Tryd.func21, Tryd.ntmps21
    go_wp2_with fail
    refine (HSP.out _ HY.out).mono ?_
    rintro e wx ⟨v2, rfl, hf, hb⟩
    have B' := Lib.hid (B.out.trans (hb.mono B.out.size))
    have M' := Lib.hid (M.out.below hb M.out.lt)
    have O' := Lib.hid (O.out.below hb O.out.lt)
    have HF := Lib.hid hf
    clear hb hf B M O HY HSP
    have B := Lib.hid B'.out
    have M := Lib.hid M'.out
    have O := Lib.hid O'.out
    clear B' M' O'
    obtain ⟨p2, c2, us, rfl, k1, k2, k3, k4, k5⟩ := id HF.out
    have H4 := Lib.hid k4
    have H5 := Lib.hid k5
    unfold maxLen at k2
    clear k3 k4 k5 HF
    cases hE : splitE b with
    | succ n =>
      have HB := Lib.hid (show decBE b = n + 1 ∧ decBM b = msg0 by unfold decBE decBM; rw [hE]; exact ⟨rfl, rfl⟩)
      have z1 : (((n + 1 : Nat) : Int) == 0) = false := by simp; omega
      have z2 : (((n + 1 : Nat) : Int) != 0) = true := by simp; omega
      clear hE
      have HN := Lib.hid (rfl : ((n + 1 : Nat) : Int) = ((n + 1 : Nat) : Int))
      generalize hen : ((n + 1 : Nat) : Int) = en at *
      clear HN
      have HEN := Lib.hid hen
      clear hen
      have m0 := (O.out.cell 0).trans rfl
      have m1 := (O.out.cell 1).trans rfl
      have m2 := (O.out.cell 2).trans rfl
      have m3 := (O.out.cell 3).trans rfl
      have m4 := (O.out.cell 4).trans rfl
      have m5 := (O.out.cell 5).trans rfl
      have m6 := (O.out.cell 6).trans rfl
      have m7 := (O.out.cell 7).trans rfl
      have m8 := (O.out.cell 8).trans rfl
      go_wp2_with (refine wpList_store (.tmp 2) (.tmp 25) 25 rfl rfl w.heap.size 0 _ _ #[.int .i64 0, .int .i64 0, .int .i64 0, .int .i64 0, .int .i64 0, .int .i64 0, .int .i64 0, .int .i64 0, .int .i64 0] rfl rfl M.out (by kernel_rfl) (by simp [Value.oneCell']) (by simp) ?_)
      intro w8 hn8 ko8
      have h8 : Blk w8 w.heap.size 25 #[.int .i64 0, .int .i64 0, .int .i64 0, .int .i64 0, .int .i64 0, .int .i64 0, .int .i64 0, .int .i64 0, .int .i64 0] := hn8
      have q0 := (h8.cell 0).trans rfl
      have q1 := (h8.cell 1).trans rfl
      have q2 := (h8.cell 2).trans rfl
      have q3 := (h8.cell 3).trans rfl
      have q4 := (h8.cell 4).trans rfl
      have q5 := (h8.cell 5).trans rfl
      have q6 := (h8.cell 6).trans rfl
      have q7 := (h8.cell 7).trans rfl
      have q8 := (h8.cell 8).trans rfl
      have B8 := Lib.hid (B.out.trans (ko8.below (Nat.le_refl _)))
      clear hn8 ko8 h8
      go_wp2_with fail
      refine bodyPost_ret (v := .tuple #[.agg #[.int .i64 0, .int .i64 0, .int .i64 0, .int .i64 0, .int .i64 0, .int .i64 0, .int .i64 0, .int .i64 0, .int .i64 0], .int .i64 en]) (by simp [results, Tryd.results21, go_sem, q0, q1, q2, q3, q4, q5, q6, q7, q8]) rfl ?_
      exact ⟨by rw [HR.out.1, HR.out.2, HB.out.1, HB.out.2, HEN.out]; rfl, B8.out⟩
    | zero =>
      obtain ⟨hrr, _⟩ := split_ok hE
      have HOK := Lib.hid (right_parts hrr).2
      have HDE := Lib.hid (show decBE b = (if (rowM (splitL b)).isSome then 0 else 4) ∧ decBM b = (rowM (splitL b)).getD msg0 by unfold decBE decBM; rw [hE]; exact ⟨rfl, rfl⟩)
      clear hE hrr
      generalize splitL b = fs at *
      have LB := Lib.hid (Blk.new wx 3 (ivL (List.replicate 9 0)))
      have X0 := Lib.hid (below_alloc1 wx (.cells (ivL (List.replicate 9 0)) 3))
      have HO1 := Lib.hid (show w.heap.size + 1 < wx.heap.size from O.out.lt)
      have B0 := Lib.hid B.out
      have M0 := Lib.hid M.out
      have O0 := Lib.hid O.out
      clear B M O
      go_wp2_with fail
      go_loopw [30] (fun i wr => ∃ (k : Nat) (l : List Int), k ≤ fs.length ∧ i = .int .i64 k ∧ putsF (List.replicate 9 0) (fs.take k) = some l ∧ Blk wr wx.heap.size 3 (ivL l) ∧ Below wx.heap.size wx wr) (fun i _ => fs.length - (intOf i).toNat)
      case atStart => exact ⟨0, _, by omega, rfl, rfl, LB.out, X0.out⟩
      case round =>
        obtain ⟨k, l, hk, rfl, hps, hL, hbw⟩ := hrel
        have HPS := Lib.hid hps
        have hlen : l.length = 9 := by have := putsF_len _ hps; simpa using this
        have X := Lib.hid hbw
        have B := Lib.hid (B0.out.trans (hbw.mono B0.out.size))
        have M := Lib.hid (M0.out.below hbw M0.out.lt)
        have O := Lib.hid (O0.out.below hbw O0.out.lt)
        have L := Lib.hid hL
        clear hps hL LB X0 B0 M0 O0
        by_cases hlt : k < fs.length
        · obtain ⟨bb, off, q, c, rfl, hc1, hc2, hby⟩ := fldL_cell H4.out H5.out hlt
          have g1 := Below.keeps hbw _ _ hc1
          have g2 := Below.keeps hbw _ _ hc2
          have HBY := Lib.hid (hby.keep (Below.keeps hbw))
          have hfo : fieldOk (lastOf 0 (fs.take k)) fs[k] = true ∧ 0 ≤ lastOf 0 (fs.take k) := by
            have e : fs = fs.take (k + 1) ++ fs.drop (k + 1) := (List.take_append_drop _ _).symm
            have h9 := HOK.out
            rw [e, rowOk_app, Bool.and_eq_true] at h9
            have h8 := h9.1
            rw [rowOk_take fs k hlt, Bool.and_eq_true] at h8
            exact ⟨h8.2, rowOk_lastOf _ _ (Int.le_refl _) h8.1⟩
          have htag : 1 ≤ fs[k].1 := by
            have h9 := hfo.1
            unfold fieldOk at h9
            simp only [Bool.and_eq_true, decide_eq_true_eq] at h9
            omega
          have HBAD := Lib.hid (@rowM_bad fs k hlt l HPS.out)
          have HSTEP := Lib.hid (putsF_take (List.replicate 9 0) fs k hlt)
          clear hc1 hc2 hby hfo
          generalize fs[k] = f at *
          obtain ⟨tag, dat⟩ := f
          simp only at g1 g2 HBY htag
          have HTN := Lib.hid (fun w' (hy : Byt w' (.slice q dat.length c) dat) => reftonumber_any (.slice q dat.length c) dat w' hy)
          have Y2 := Lib.hid (HBY.out.keep (keep_alloc wr (.cells #[.int .i64 tag, .slice q dat.length c] 57)))
          have X2 := Lib.hid (below_alloc hbw (.cells #[.int .i64 tag, .slice q dat.length c] 57))
          have B2 := Lib.hid (below_alloc B.out (.cells #[.int .i64 tag, .slice q dat.length c] 57))
          have M2 := Lib.hid (M.out.alloc (.cells #[.int .i64 tag, .slice q dat.length c] 57))
          have O2 := Lib.hid (O.out.alloc (.cells #[.int .i64 tag, .slice q dat.length c] 57))
          have L2 := Lib.hid (L.out.alloc (.cells #[.int .i64 tag, .slice q dat.length c] 57))
          clear HBY B M O L X hbw
          go_wp2_with fail
          refine (HTN.out _ Y2.out).mono ?_
          rintro e w3 ⟨rfl, hb3⟩
          have B := Lib.hid (B2.out.trans (hb3.mono B2.out.size))
          have M := Lib.hid (M2.out.below hb3 M2.out.lt)
          have O := Lib.hid (O2.out.below hb3 O2.out.lt)
          have L := Lib.hid (L2.out.below hb3 L2.out.lt)
          have X := Lib.hid (X2.out.trans (hb3.mono X2.out.size))
          have t1 : w3.cell? ⟨wr.heap.size, 0, none⟩ = some (.int .i64 tag) := by
            refine Below.keeps hb3 _ _ ?_
            go_simp
          have t2 : w3.cell? ⟨wr.heap.size, 1, none⟩ = some (.slice q dat.length c) := by
            refine Below.keeps hb3 _ _ ?_
            go_simp
          clear hb3 B2 M2 O2 L2 X2 Y2 g1 g2 HTN
          by_cases hbadF : putF l (tag, dat) = none
          · have hno := HBAD.out hbadF
            have HB := Lib.hid (show decBE b = 4 ∧ decBM b = msg0 by rw [HDE.out.1, HDE.out.2, hno]; exact ⟨rfl, rfl⟩)
            have hways : decide (9 < tag) = true ∨ (decide (9 < tag) = false ∧ ((dat.length : Int) == 0) = true) ∨ (decide (9 < tag) = false ∧ ((dat.length : Int) == 0) = false ∧ ((toNumE dat : Int) == 0) = false ∧ ((toNumE dat : Int) != 0) = true) := by
              unfold putF at hbadF
              split at hbadF
              · rename_i h9
                rw [hlen] at h9
                by_cases q1 : 9 < tag
                · exact .inl (decide_eq_true q1)
                · by_cases q2 : dat = []
                  · exact .inr (.inl ⟨decide_eq_false q1, by subst q2; rfl⟩)
                  · have q3 : toNumE dat ≠ 0 := by
                      rcases h9 with h9 | h9 | h9
                      · exact absurd h9 q1
                      · exact absurd h9 q2
                      · exact h9
                    refine .inr (.inr ⟨decide_eq_false q1, ?_, ?_, ?_⟩)
                    · rw [beq_eq_false_iff_ne]; intro h; exact q2 (List.length_eq_zero_iff.1 (by omega))
                    · rw [beq_eq_false_iff_ne]; omega
                    · rw [bne_iff_ne]; omega
              · cases hbadF
            clear hbadF hno HBAD HSTEP HPS
            generalize ((toNumE dat : Nat) : Int) = te at *
            rcases hways with a1 | ⟨a1, a2⟩ | ⟨a1, a2, a3, a4⟩
            all_goals
              have m0 := (O.out.cell 0).trans rfl
              have m1 := (O.out.cell 1).trans rfl
              have m2 := (O.out.cell 2).trans rfl
              have m3 := (O.out.cell 3).trans rfl
              have m4 := (O.out.cell 4).trans rfl
              have m5 := (O.out.cell 5).trans rfl
              have m6 := (O.out.cell 6).trans rfl
              have m7 := (O.out.cell 7).trans rfl
              have m8 := (O.out.cell 8).trans rfl
              go_wp2_with (refine wpList_store (.tmp 2) (.tmp 53) 25 rfl rfl w.heap.size 0 _ _ #[.int .i64 0, .int .i64 0, .int .i64 0, .int .i64 0, .int .i64 0, .int .i64 0, .int .i64 0, .int .i64 0, .int .i64 0] rfl rfl M.out (by kernel_rfl) (by simp [Value.oneCell']) (by simp) ?_)
              intro w8 hn8 ko8
              have h8 : Blk w8 w.heap.size 25 #[.int .i64 0, .int .i64 0, .int .i64 0, .int .i64 0, .int .i64 0, .int .i64 0, .int .i64 0, .int .i64 0, .int .i64 0] := hn8
              have q0 := (h8.cell 0).trans rfl
              have q1 := (h8.cell 1).trans rfl
              have q2 := (h8.cell 2).trans rfl
              have q3 := (h8.cell 3).trans rfl
              have q4 := (h8.cell 4).trans rfl
              have q5 := (h8.cell 5).trans rfl
              have q6 := (h8.cell 6).trans rfl
              have q7 := (h8.cell 7).trans rfl
              have q8 := (h8.cell 8).trans rfl
              have B8 := Lib.hid (B.out.trans (ko8.below (Nat.le_refl _)))
              clear hn8 ko8 h8
              go_wp2_with fail
              refine bodyPost_ret (v := .tuple #[.agg #[.int .i64 0, .int .i64 0, .int .i64 0, .int .i64 0, .int .i64 0, .int .i64 0, .int .i64 0, .int .i64 0, .int .i64 0], .int .i64 4]) (by simp [results, Tryd.results21, go_sem, q0, q1, q2, q3, q4, q5, q6, q7, q8]) rfl ?_
              exact ⟨by rw [HR.out.1, HR.out.2, HB.out.1, HB.out.2]; rfl, B8.out⟩
          · obtain ⟨j, hj⟩ : ∃ j : Nat, tag = (j : Int) + 1 := ⟨(tag - 1).toNat, by omega⟩
            have hgood : ¬ ((l.length : Int) < tag ∨ dat = [] ∨ toNumE dat ≠ 0) := by
              intro h9
              exact hbadF (by unfold putF; rw [if_pos h9])
            simp only [not_or, Decidable.not_not, hlen] at hgood
            obtain ⟨q1, q2, q3⟩ := hgood
            have q1' : ¬ (9 : Int) < tag := q1
            have a1 : decide (9 < tag) = false := decide_eq_false q1'
            have a2 : ((dat.length : Int) == 0) = false := by
              rw [beq_eq_false_iff_ne]; intro h; exact q2 (List.length_eq_zero_iff.1 (by omega))
            have hj9 : j < 9 := by omega
            have hput : putF l (tag, dat) = some (l.set j (toNumF dat : Int)) := by
              unfold putF
              rw [if_neg (by rw [hlen, q3]; simp only [not_or]; exact ⟨q1', q2, by simp⟩)]
              simp only
              rw [show (tag - 1).toNat = j by omega]
            have HST := Lib.hid (show putsF (List.replicate 9 0) (fs.take (k + 1)) = some (l.set j (toNumF dat : Int)) by rw [HSTEP.out, HPS.out]; exact hput)
            rw [q3]
            subst hj
            have hjl : j < l.length := by omega
            have p2 : w3.cell? ⟨wx.heap.size, j, none⟩ = some (.int .i64 l[j]) := by
              rw [L.out.cell j]
              exact ivL_get l j hjl
            have p3 := L.out.frozen j
            have hw1 : (j : Int) + 1 - 1 = (j : Int) := by omega
            clear hput HBAD HSTEP q1 q1' q2 q3 hbadF htag
            generalize toNumF dat = x at *
            go_wp2_with fail
            go_roundw
            case rel =>
              refine ⟨k + 1, l.set j (x : Int), by omega, by go_num, HST.out, ?_, ?_⟩
              · have := L.out.set_ j (.int .i64 (x : Int))
                rwa [ivL_set] at this
              · exact X.out.trans (((Only.refl wx.heap.size w3).set_ j _).below (Nat.le_refl _))
            case measure => simp [intOf]; omega
        · obtain rfl : k = fs.length := by omega
          have hps' := HPS.out
          rw [List.take_of_length_le (Nat.le_refl _)] at hps'
          have HROW := Lib.hid (show rowM fs = if rightM (ofL l) then some (ofL l) else none by unfold rowM; rw [hps']; rfl)
          have HRI := Lib.hid (fun w' => mright_any (ofL l) w')
          have HMV := Lib.hid (msgV_ofL hlen)
          clear hps' HPS
          obtain ⟨x0, x1, x2, x3, x4, x5, x6, x7, x8, rfl⟩ := nine hlen
          rw [HMV.out] at HRI
          change RowKit.Hid (∀ w' : World, Calls Tryd.prog 16 #[.agg #[.int .i64 x0, .int .i64 x1, .int .i64 x2, .int .i64 x3, .int .i64 x4, .int .i64 x5, .int .i64 x6, .int .i64 x7, .int .i64 x8]] w' fun e w'' => e = .returned (.bool (rightM (ofL [x0, x1, x2, x3, x4, x5, x6, x7, x8]))) ∧ Below w'.heap.size w' w'') at HRI
          go_wp2_with fail
          refine wp_phi_tail (List.take 30 _) (List.drop 30 _) (List.take_append_drop 30 _).symm (fun wq => Below w.heap.size w wq ∧ Blk wq wx.heap.size 3 #[.int .i64 x0, .int .i64 x1, .int .i64 x2, .int .i64 x3, .int .i64 x4, .int .i64 x5, .int .i64 x6, .int .i64 x7, .int .i64 x8] ∧ Blk wq w.heap.size 25 #[.int .i64 0, .int .i64 0, .int .i64 0, .int .i64 0, .int .i64 0, .int .i64 0, .int .i64 0, .int .i64 0, .int .i64 0] ∧ Blk wq (w.heap.size + 1) 25 #[.int .i64 0, .int .i64 0, .int .i64 0, .int .i64 0, .int .i64 0, .int .i64 0, .int .i64 0, .int .i64 0, .int .i64 0]) [(29, PNewH (w.heap.size + 1))] [] (by kernel_rfl) (by kernel_rfl) ?_ ?_ ⟨B.out.drew, L.out, M.out, O.out⟩ ?_
          · rintro w1 w2 ⟨a1, a2, a3, a4⟩ hb
            exact ⟨a1.trans (hb.mono a1.size), a2.below hb a2.lt, a3.below hb a3.lt, a4.below hb a4.lt⟩
          · simp only [List.mem_cons, List.not_mem_nil, or_false, forall_eq]
            exact fun _ _ _ _ hb h g hg => ⟨(h g hg).1, (h g hg).2.below hb (h g hg).2.lt⟩
          simp only [List.take_succ_cons, List.take_zero, List.drop_succ_cons, List.drop_zero]
          repeat (first | (refine phi_skipK rfl (fun K hK => ?_); simp only [Act.put, List.setIfInBounds_toArray, List.set_cons_succ, List.set_cons_zero]; (try simp only [List.cons_append]); (try simp only [List.nil_append]); apply hK; clear hK K) | (refine phi_pureK rfl rfl (fun K hK => ?_); apply Exists.intro; constructor; (focus (rintro w' ⟨h0, hN, hM, hO⟩; (have k0 := (hN.cell 0).trans rfl; have k1 := (hN.cell 1).trans rfl; have k2 := (hN.cell 2).trans rfl; have k3 := (hN.cell 3).trans rfl; have k4 := (hN.cell 4).trans rfl; have k5 := (hN.cell 5).trans rfl; have k6 := (hN.cell 6).trans rfl; have k7 := (hN.cell 7).trans rfl; have k8 := (hN.cell 8).trans rfl; clear h0 hN hM hO); first | (go_simp; done) | (go_simp; (try go_bits); (try go_simp); rfl) | go_simp)); simp only [Act.put, List.setIfInBounds_toArray, List.set_cons_succ, List.set_cons_zero]; (try simp only [List.cons_append]); (try simp only [List.nil_append]); apply hK; clear hK K))
          refine phi_partK (PNewH (w.heap.size + 1)) rfl rfl ⟨_, 0, rfl⟩ ?_ (fun K hK v hv => ?_)
          · rintro w' ⟨h0, hN, hM, hO⟩ _
            unfold gives
            go_simp
            exact ⟨⟨_, rfl⟩, fun g hg => by
              obtain rfl : w'.heap.size = g := by simpa using hg
              exact ⟨hO.lt, Blk.new _ _ _⟩, below_alloc1 _ _⟩
          obtain ⟨gc, rfl⟩ := hv
          simp only [Act.put, List.setIfInBounds_toArray, List.set_cons_succ, List.set_cons_zero]; (try simp only [List.cons_append]); (try simp only [List.nil_append])
          apply hK
          clear hK K
          refine phi_done ?_
          rintro w9 ⟨hB9, hL9, hM9, hO9⟩ hf
          obtain ⟨hgb, hC9⟩ := hf (29, fun wq => (PNewH (w.heap.size + 1)).fact wq (.pointer (some ⟨gc, 0, none⟩))) (by simp) gc rfl
          have B9 := Lib.hid hB9
          have M9 := Lib.hid hM9
          have O9 := Lib.hid hO9
          have HGB := Lib.hid hgb
          clear hf B M O L X hB9 hL9 hM9 hO9
          refine wpList_store (.tmp 12) (.tmp 89) 25 rfl rfl gc 0 _ _ #[.int .i64 x0, .int .i64 x1, .int .i64 x2, .int .i64 x3, .int .i64 x4, .int .i64 x5, .int .i64 x6, .int .i64 x7, .int .i64 x8] rfl rfl hC9 (by kernel_rfl) (by simp [Value.oneCell']) (by simp) ?_
          intro w10 hn10 ko10
          have hC10 : Blk w10 gc 25 #[.int .i64 x0, .int .i64 x1, .int .i64 x2, .int .i64 x3, .int .i64 x4, .int .i64 x5, .int .i64 x6, .int .i64 x7, .int .i64 x8] := hn10
          have C := Lib.hid hC10
          have B := Lib.hid (B9.out.trans (ko10.below (by have := HGB.out; omega)))
          have M := Lib.hid (ko10.blk M9.out (by have := HGB.out; omega))
          have O := Lib.hid (ko10.blk O9.out (by have := HGB.out; omega))
          clear hn10 ko10 hC10 hC9 B9 M9 O9 hgb
          have c0 := (C.out.cell 0).trans rfl
          have c1 := (C.out.cell 1).trans rfl
          have c2 := (C.out.cell 2).trans rfl
          have c3 := (C.out.cell 3).trans rfl
          have c4 := (C.out.cell 4).trans rfl
          have c5 := (C.out.cell 5).trans rfl
          have c6 := (C.out.cell 6).trans rfl
          have c7 := (C.out.cell 7).trans rfl
          have c8 := (C.out.cell 8).trans rfl
          go_wp2_with fail
          refine (HRI.out _).mono ?_
          rintro e w11 ⟨rfl, hb⟩
          have B' := Lib.hid (B.out.trans (hb.mono B.out.size))
          have C' := Lib.hid (C.out.below hb C.out.lt)
          have M' := Lib.hid (M.out.below hb M.out.lt)
          have O' := Lib.hid (O.out.below hb O.out.lt)
          clear hb B C M O c0 c1 c2 c3 c4 c5 c6 c7 c8
          have B := Lib.hid B'.out
          have C := Lib.hid C'.out
          have M := Lib.hid M'.out
          have O := Lib.hid O'.out
          clear B' C' M' O'
          cases hr : rightM (ofL [x0, x1, x2, x3, x4, x5, x6, x7, x8])
          · rw [hr] at HROW
            have HB := Lib.hid (show decBE b = 4 ∧ decBM b = msg0 by rw [HDE.out.1, HDE.out.2, HROW.out]; exact ⟨rfl, rfl⟩)
            clear hr HROW HDE
            have m0 := (O.out.cell 0).trans rfl
            have m1 := (O.out.cell 1).trans rfl
            have m2 := (O.out.cell 2).trans rfl
            have m3 := (O.out.cell 3).trans rfl
            have m4 := (O.out.cell 4).trans rfl
            have m5 := (O.out.cell 5).trans rfl
            have m6 := (O.out.cell 6).trans rfl
            have m7 := (O.out.cell 7).trans rfl
            have m8 := (O.out.cell 8).trans rfl
            go_wp2_with (refine wpList_store (.tmp 2) (.tmp 93) 25 rfl rfl w.heap.size 0 _ _ #[.int .i64 0, .int .i64 0, .int .i64 0, .int .i64 0, .int .i64 0, .int .i64 0, .int .i64 0, .int .i64 0, .int .i64 0] rfl rfl M.out (by kernel_rfl) (by simp [Value.oneCell']) (by simp) ?_)
            intro w8 hn8 ko8
            have h8 : Blk w8 w.heap.size 25 #[.int .i64 0, .int .i64 0, .int .i64 0, .int .i64 0, .int .i64 0, .int .i64 0, .int .i64 0, .int .i64 0, .int .i64 0] := hn8
            have q0 := (h8.cell 0).trans rfl
            have q1 := (h8.cell 1).trans rfl
            have q2 := (h8.cell 2).trans rfl
            have q3 := (h8.cell 3).trans rfl
            have q4 := (h8.cell 4).trans rfl
            have q5 := (h8.cell 5).trans rfl
            have q6 := (h8.cell 6).trans rfl
            have q7 := (h8.cell 7).trans rfl
            have q8 := (h8.cell 8).trans rfl
            have B8 := Lib.hid (B.out.trans (ko8.below (Nat.le_refl _)))
            clear hn8 ko8 h8
            go_wp2_with fail
            refine bodyPost_ret (v := .tuple #[.agg #[.int .i64 0, .int .i64 0, .int .i64 0, .int .i64 0, .int .i64 0, .int .i64 0, .int .i64 0, .int .i64 0, .int .i64 0], .int .i64 4]) (by simp [results, Tryd.results21, go_sem, q0, q1, q2, q3, q4, q5, q6, q7, q8]) rfl ?_
            exact ⟨by rw [HR.out.1, HR.out.2, HB.out.1, HB.out.2]; rfl, B8.out⟩
          · rw [hr] at HROW
            have HB := Lib.hid (show decBE b = 0 ∧ decBM b = ofL [x0, x1, x2, x3, x4, x5, x6, x7, x8] by rw [HDE.out.1, HDE.out.2, HROW.out]; exact ⟨rfl, rfl⟩)
            clear hr HROW HDE
            have c0 := (C.out.cell 0).trans rfl
            have c1 := (C.out.cell 1).trans rfl
            have c2 := (C.out.cell 2).trans rfl
            have c3 := (C.out.cell 3).trans rfl
            have c4 := (C.out.cell 4).trans rfl
            have c5 := (C.out.cell 5).trans rfl
            have c6 := (C.out.cell 6).trans rfl
            have c7 := (C.out.cell 7).trans rfl
            have c8 := (C.out.cell 8).trans rfl
            go_wp2_with (refine wpList_store (.tmp 2) (.tmp 94) 25 rfl rfl w.heap.size 0 _ _ #[.int .i64 x0, .int .i64 x1, .int .i64 x2, .int .i64 x3, .int .i64 x4, .int .i64 x5, .int .i64 x6, .int .i64 x7, .int .i64 x8] rfl rfl M.out (by kernel_rfl) (by simp [Value.oneCell']) (by simp) ?_)
            intro w8 hn8 ko8
            have h8 : Blk w8 w.heap.size 25 #[.int .i64 x0, .int .i64 x1, .int .i64 x2, .int .i64 x3, .int .i64 x4, .int .i64 x5, .int .i64 x6, .int .i64 x7, .int .i64 x8] := hn8
            have q0 := (h8.cell 0).trans rfl
            have q1 := (h8.cell 1).trans rfl
            have q2 := (h8.cell 2).trans rfl
            have q3 := (h8.cell 3).trans rfl
            have q4 := (h8.cell 4).trans rfl
            have q5 := (h8.cell 5).trans rfl
            have q6 := (h8.cell 6).trans rfl
            have q7 := (h8.cell 7).trans rfl
            have q8 := (h8.cell 8).trans rfl
            have B8 := Lib.hid (B.out.trans (ko8.below (Nat.le_refl _)))
            clear hn8 ko8 h8
            go_wp2_with fail
            refine bodyPost_ret (v := .tuple #[.agg #[.int .i64 x0, .int .i64 x1, .int .i64 x2, .int .i64 x3, .int .i64 x4, .int .i64 x5, .int .i64 x6, .int .i64 x7, .int .i64 x8], .int .i64 0]) (by simp [results, Tryd.results21, go_sem, q0, q1, q2, q3, q4, q5, q6, q7, q8]) rfl ?_
            exact ⟨by rw [HR.out.1, HR.out.2, HB.out.1, HB.out.2]; rfl, B8.out⟩
end Go.Proofs.YtpbgappggmcmgaaDoor
