/-
  LawJP: JournalPlays answers true.
-/
import Derived.Test.YtoiknidlincdkaaDoorPlayDo4
import Derived.Test.YtoiknidlincdkaaDoorSameL
import Derived.Test.YtoiknidlincdkaaDoorJourR
import Derived.Test.YtoiknidlincdkaaDoorLawJC
namespace Go.Proofs.YtoiknidlincdkaaDoor
open Go.RowKit
attribute [local irreducible] wpPhi

theorem openM_new (n : Int) : openM (MSt.new n) = ⟨MSt.new n, [], false⟩ ∧ openME (MSt.new n) = 0 := by
  have h : readJ (MSt.new n).all = ([], 0) := readJ_none head_nil
  unfold openM openME
  rw [h]
  exact ⟨rfl, rfl⟩
theorem relP_new (n : Int) (h0 : 0 ≤ n) (h1 : n ≤ 65536) : Rel (TSt.P [] 0 n) (MSt.new n) := by
  rw [← p_zero n h0 h1]
  exact Rel.new n h0 h1
theorem relJ_new (n : Int) (h0 : 0 ≤ n) (h1 : n ≤ 65536) : RelJ (JSt.rest [] n) (openM (MSt.new n)) := by
  rw [(openM_new n).1]
  exact ⟨relP_new n h0 h1, rfl, rfl, rfl⟩
theorem duo_start {B : Nat} {w w5 w6 : World} {E : Nat → Addr} {a g j m : Nat} {p o q : Option Nat} {st : JSt} {mr : MJr} {m0 : MSt} (hj : JG B w E j a p o [] st) (hg : g = w.heap.size) (hb : Below w.heap.size w w5) (h5 : MB w5 g m0)
    (hm : Mn B w6 m g q (fun b => o = some b) mr) (hm2 : w5.heap.size ≤ m) (hq : ∀ b, q = some b → w5.heap.size ≤ b) (k : But [g] w5 w6) : Duo B w6 E a g j m p o q st mr := by
  have hj5 := hj.same hb
  have hgB : ∀ x ∈ [g], B ≤ x := fun x hx => by
    obtain rfl : x = g := by simpa using hx
    have := hj.hB
    omega
  have hs := hb.size
  refine ⟨⟨hj5.jn.but k (out_of fun x hx hc => ?_) (fun x hx => .inr fun cs hcs => ?_), hj5.base, Nat.le_trans hj5.hB k.size, hj5.glob.below (k.below hgB hj5.hB), nofun⟩, hm, fun x hx hc => ?_⟩
  · obtain rfl : x = g := by simpa using hc
    have := hj.jn.lt x hx
    omega
  · obtain rfl : x = g := by simpa using hx
    exact Blk.ne_ hcs (show Blk w5 x _ _ from h5) (by decide) rfl
  · have := hj.jn.lt x hx
    rcases mem_mS.1 hc with hc | hc | hc
    · omega
    · omega
    · have := hq x hc; omega
theorem PlayW.below {B : Nat} {w w' : World} {E : Nat → Addr} {P a g j m : Nat} {p o q : Option Nat} {st : JSt} {mr : MJr} (h : PlayW B w E P a g j m p o q st mr) (k : Below w.heap.size w w') : PlayW B w' E P a g j m p o q st mr :=
  ⟨h.duo.below k, h.pl.below k h.pl.lt, h.rel, h.hP⟩
/-- what the comparison loads -/
structure PlayC (w : World) (P a g j m : Nat) (pr : Option Addr) (cr : Nat) (mr : MJr) : Prop where
  p1 : w.cell? ⟨P, 1, none⟩ = some (.pointer (some ⟨j, 0, none⟩))
  p2 : w.cell? ⟨P, 2, none⟩ = some (.pointer (some ⟨m, 0, none⟩))
  m0 : w.cell? ⟨m, 0, none⟩ = some (.pointer (some ⟨g, 0, none⟩))
  m1 : w.cell? ⟨m, 1, none⟩ = some (.slice pr mr.rows.length cr)
  m2 : w.cell? ⟨m, 2, none⟩ = some (.bool mr.dead)
  g0 : w.cell? ⟨g, 0, none⟩ = some (.string (bs mr.m.sure))
  g1 : w.cell? ⟨g, 1, none⟩ = some (.string (bs mr.m.tail))
  ls : BytL w (.slice pr mr.rows.length cr) mr.rows
theorem PlayW.cells {B : Nat} {w : World} {E : Nat → Addr} {P a g j m : Nat} {p o q : Option Nat} {st : JSt} {mr : MJr} (h : PlayW B w E P a g j m p o q st mr) : ∃ pr cr, PlayC w P a g j m pr cr mr := by
  obtain ⟨v, hb, hy⟩ := h.duo.mn.bytl
  obtain ⟨pr, cr, us, rfl, _⟩ := id hy
  have hc := h.duo.mn.tape.cells
  exact ⟨pr, cr, (h.pl.cell 1).trans rfl, (h.pl.cell 2).trans rfl, (hb.cell 0).trans rfl, (hb.cell 1).trans rfl, (hb.cell 2).trans rfl, hc.c0, hc.c1, hy⟩
theorem PlayC.below {w w' : World} {P a g j m : Nat} {pr : Option Addr} {cr : Nat} {mr : MJr} (h : PlayC w P a g j m pr cr mr) (k : Below w.heap.size w w') : PlayC w' P a g j m pr cr mr :=
  ⟨Below.keeps k _ _ h.p1, Below.keeps k _ _ h.p2, Below.keeps k _ _ h.m0, Below.keeps k _ _ h.m1, Below.keeps k _ _ h.m2, Below.keeps k _ _ h.g0, Below.keeps k _ _ h.g1, h.ls.keep (Below.keeps k)⟩
set_option maxRecDepth 20000 in
set_option maxHeartbeats 1000000 in
theorem plays_any (w : World) (E : Nat → Addr) (he : Errs w E) (ht : HalfTab w) (n : Int) (v : Value) (os : List OpJ) (hv : OpLJ w v os) (hbd : ∀ o ∈ os, -9223372036854775808 ≤ o.2.1 ∧ o.2.1 ≤ 9223372036854775807) :
    Calls Tryd.prog 7 #[.int .i64 n, v] w (ok1 w) := by
  have HE := Lib.hid he
  have HGL := Lib.hid (Glob.of he ht)
  have HAL := Lib.hid (alive_any w E he ht)
  have HV := Lib.hid hv
  have HBD := Lib.hid hbd
  obtain ⟨p, cap, rfl, h1, h2, h3⟩ := hv
  obtain ⟨i0, hi, hz0, hz1, hz2⟩ := info_parts opInfo
  have H3 := Lib.hid h3
  unfold maxLen at h2
  clear he ht h3 hbd
  have hu := u64_conv n
  go_enter Tryd.func7, Tryd.ntmps7
  go_wp2_with fail
  refine HAL.out.mono ?_
  rintro e w1 ⟨rfl, hb1⟩
  have HB1 := Lib.hid hb1
  clear hb1 HAL
  go_wp2_with fail
  obtain ⟨r, hr, hrm⟩ : ∃ r : Nat, r < 2000 ∧ (u64n n : Int) % 2000 = (r : Int) := ⟨u64n n % 2000, Nat.mod_lt _ (by decide), by omega⟩
  rw [hrm]
  clear hu hrm
  refine (long_any _ os w1 (HV.out.keep (Below.keeps HB1.out))).mono ?_
  rintro e w2 ⟨rfl, hb2⟩
  have HB2 := Lib.hid (HB1.out.trans (hb2.mono HB1.out.size))
  clear hb2 HB1
  cases hlo : longR os with
  | true =>
    go_wp2_with fail
    go_ret
    exact ⟨rfl, HB2.out⟩
  | false =>
  have HLO := Lib.hid (longR_no hlo)
  clear hlo
  go_wp2_with fail
  refine (newP_any w2 E r ((HE.out.below HB2.out).on [0] rfl) (by omega) (by omega)).mono ?_
  rintro e w3 ⟨rfl, ht3, hb3⟩
  have HT3 := Lib.hid ht3
  have HB3 := Lib.hid (HB2.out.trans (hb3.mono HB2.out.size))
  clear ht3 hb3
  have haw : w.heap.size ≤ w2.heap.size := HB2.out.size
  generalize w2.heap.size = a at *
  go_wp2_with fail
  refine (openR_any w.heap.size w3 E a none [] [] r HT3.out rfl (HGL.out.below HB3.out) HB3.out.size (by simp; omega) (by simp)).mono ?_
  rintro e w4 ⟨rfl, ⟨p4, o4, _, hj4⟩, k4⟩
  have HJ4 := Lib.hid hj4
  have HB4 := Lib.hid (HB3.out.trans (k4.below (B := w.heap.size) (by simp; omega) HB3.out.size))
  clear hj4 k4 HT3 HB3 HB2 haw
  generalize w3.heap.size = j at *
  go_wp2_with fail
  refine (mnew_any w4 r).mono ?_
  rintro e w5 ⟨rfl, hm5, hb5⟩
  have HM5 := Lib.hid hm5
  have HB5 := Lib.hid hb5
  have HRN := Lib.hid (relP_new r (by omega) (by omega))
  have hgw : w.heap.size ≤ w4.heap.size := HB4.out.size
  obtain ⟨g, hg⟩ : ∃ g, g = w4.heap.size := ⟨_, rfl⟩
  have HGE := Lib.hid hg
  have hBg : w.heap.size ≤ g := by omega
  rw [← hg] at HM5 ⊢
  clear hm5 hb5 hg
  go_wp2_with fail
  have hrl : ∃ s, Rel s (MSt.new r) := ⟨_, HRN.out⟩
  have hme := (openM_new r).2
  have HMO := Lib.hid (mopen_any w.heap.size w5 g (MSt.new r) HM5.out hrl hBg hme)
  refine HMO.out.mono ?_
  rintro e w6 ⟨m, q, rfl, hm6, hl6, hq6, k6⟩
  have HRJ := Lib.hid (relJ_new r (by omega) (by omega))
  have HDU := Lib.hid (duo_start HJ4.out HGE.out HB5.out HM5.out (hm6 (fun b => o4 = some b) fun b hb => by
    have := HJ4.out.jn.lt b (mem_jS.2 (.inr (.inr (.inr hb))))
    have := HB5.out.size
    omega) hl6 hq6 k6)
  have HB6 := Lib.hid (HB4.out.trans ((HB5.out.mono hgw).trans (k6.below (B := w.heap.size) (fun x hx => by
    obtain rfl : x = g := by simpa using hx
    exact hBg) (by have := HB5.out.size; omega))))
  clear hm6 hl6 hq6 k6 HM5 HB5 HB4 HJ4 HGE hBg hgw HRN HMO hme hrl
  have HPW := Lib.hid (show PlayW w.heap.size (w6.alloc (.cells #[.pointer (some ⟨a, 0, none⟩), .pointer (some ⟨j, 0, none⟩), .pointer (some ⟨m, 0, none⟩)] 67)) E w6.heap.size a g j m p4 o4 q (JSt.rest [] r) (openM (MSt.new r)) from
    ⟨HDU.out.below (below_alloc1 _ _), Blk.new w6 _ _, HRJ.out, HB6.out.size⟩)
  have HB7 := Lib.hid (below_alloc HB6.out (.cells #[.pointer (some ⟨a, 0, none⟩), .pointer (some ⟨j, 0, none⟩), .pointer (some ⟨m, 0, none⟩)] 67))
  clear HDU HRJ HB6
  go_wp2_with fail
  generalize w6.alloc (.cells #[.pointer (some ⟨a, 0, none⟩), .pointer (some ⟨j, 0, none⟩), .pointer (some ⟨m, 0, none⟩)] 67) = w7 at *
  generalize w6.heap.size = P at *
  clear hr
  go_loopw [50] (fun i wr => ∃ (k : Nat) (j m : Nat) (p o q : Option Nat) (st : JSt) (mr : MJr), k ≤ os.length ∧ i = .int .i64 k ∧ PlayW w.heap.size wr E P a g j m p o q st mr ∧ st.rows.length ≤ 65536 + 10 * k ∧ Below w.heap.size w wr) (fun i _ => os.length - (intOf i).toNat)
  case atStart => exact ⟨0, j, m, p4, o4, q, _, _, Nat.zero_le _, rfl, HPW.out, Nat.zero_le _, HB7.out⟩
  case round =>
    clear HPW HB7
    obtain ⟨k, j, m, p1, o1, q1, st, mr, hk, rfl, hpw, hrl, hbr⟩ := hrel
    have HP0 := Lib.hid hpw
    have HRL := Lib.hid hrl
    have HBR := Lib.hid hbr
    clear hpw hrl
    by_cases hlt : k < os.length
    · obtain ⟨b, off, q, c, rfl, hc1, hc2, hc3, hby⟩ := H3.out k os[k] (by simp [hlt])
      have g1 := Below.keeps hbr _ _ hc1
      have g2 := Below.keeps hbr _ _ hc2
      have g3 := Below.keeps hbr _ _ hc3
      have HN := Lib.hid (HBD.out os[k] (List.getElem_mem hlt))
      have HRO := Lib.hid (longRow_no (HLO.out.2 os[k] (List.getElem_mem hlt)))
      have HOLD := Lib.hid (OldL.of hby hbr)
      have HLE := Lib.hid HLO.out.1
      clear hc1 hc2 hc3 hby hbr
      generalize os[k] = op at *
      obtain ⟨kind, nn, rows⟩ := op
      simp only at g1 g2 g3 HN HRO HOLD
      have hkx := below_alloc1 wr (.cells #[.int .i64 kind, .int .i64 nn, .slice q rows.length c] 49)
      have hbx := Blk.new wr 49 #[.int .i64 kind, .int .i64 nn, .slice q rows.length c]
      have HPX := Lib.hid (HP0.out.below hkx)
      have HBX := Lib.hid (HBR.out.trans (hkx.mono HBR.out.size))
      have HOX := Lib.hid (HOLD.out.mono (hkx.mono HBR.out.size))
      have x0 := (hbx.cell 0).trans rfl
      have x1 := (hbx.cell 1).trans rfl
      have x2 := (hbx.cell 2).trans rfl
      clear hkx hbx HP0 HBR HOLD
      go_wp2_with fail
      generalize wr.alloc (.cells #[.int .i64 kind, .int .i64 nn, .slice q rows.length c] 49) = wx at *
      refine (do_any7 wx E w.heap.size P a g j m p1 o1 q1 st mr kind nn HN.out _ rows HOX.out HPX.out HRO.out.1 (65536 + 10 * k) HRL.out (by omega) (by have := HLE.out; omega)).mono ?_
      rintro e w8 ⟨rfl, ⟨j8, m8, p8, o8, q8, st8, mr8, hp8, hn8⟩, hb8⟩
      have HP8 := Lib.hid hp8
      have HN8 := Lib.hid hn8
      have HB8 := Lib.hid (HBX.out.trans hb8)
      clear hp8 hn8 hb8 HPX HBX HOX HRL g1 g2 g3 x0 x1 x2 HN HRO
      have HLE8 := Lib.hid (show st8.rows.length ≤ 66146 by have := HN8.out; have := HLE.out; omega)
      obtain ⟨pr, cr, hpc⟩ := HP8.out.cells
      have HPC := Lib.hid hpc
      have HER := Lib.hid HP8.out.rel.rows
      have HED := Lib.hid HP8.out.rel.dead
      have HRA := Lib.hid (refall_any mr8.rows (by rw [← HER.out]; have := HLE8.out; omega) _ w8 hpc.ls)
      obtain ⟨q1', q2', q3', q4', _, _, _, _⟩ := hpc
      go_wp2_with fail
      refine HRA.out.mono ?_
      rintro e w9 ⟨hb9, ⟨hok, v9, rfl, ho9⟩ | ⟨hok, rfl⟩⟩
      case inr => 
        exfalso
        rw [← HER.out, HP8.out.rel.ok] at hok
        cases hok
      obtain ⟨p9, c9, rfl, _, _, _⟩ := owns_rd ho9
      have HP9 := Lib.hid (HP8.out.below hb9)
      have HC9 := Lib.hid (HPC.out.below hb9)
      have HB9 := Lib.hid (HB8.out.trans (hb9.mono HB8.out.size))
      clear q1' q2' q3' q4' HP8 HPC HB8 ho9 hb9 hok HRA
      go_wp2_with fail
      have hbd := HP9.out.rel.tape.bd.len
      have hsum := fun w => run_str_add (P := Tryd.prog) w mr8.m.sure mr8.m.tail (by omega)
      have HTL := Lib.hid HP9.out.rel.tape.l
      clear hbd
      refine wp_phi (fun w' => Below w9.heap.size w9 w') [(4, PBytL (mr8.rows)), (12, PVal (.bool true)), (19, PVal (.int .i64 (mr8.rows.length : Int))), (35, PVal (.int .i64 ((framesJ mr8.rows).length : Int))), (45, PVal (.bool mr8.dead)), (57, PByt (mr8.m.sure ++ mr8.m.tail)), (58, PVal (.string (bs (mr8.m.sure ++ mr8.m.tail))))] [(12, [4]), (58, [57])] (by kernel_rfl) (by kernel_rfl) ?_ ?_ (Below.refl _ _).drew ?_
      · intro w1' w2' hI hb
        exact hI.trans (hb.mono hI.size)
      · simp only [List.mem_cons, List.not_mem_nil, or_false, forall_eq_or_imp, forall_eq]
        exact ⟨fun _ _ _ _ h => PBytL_stays _ _ _ _ h, fun _ _ _ _ h => PVal_stays _ _ _ _ h, fun _ _ _ _ h => PVal_stays _ _ _ _ h, fun _ _ _ _ h => PVal_stays _ _ _ _ h, fun _ _ _ _ h => PVal_stays _ _ _ _ h, fun _ _ _ _ h => PByt_stays _ _ _ _ h, fun _ _ _ _ h => PVal_stays _ _ _ _ h⟩
      repeat (first | (refine phi_skipK rfl (fun K hK => ?_); simp only [Act.put, List.setIfInBounds_toArray, List.set_cons_succ, List.set_cons_zero]; (try simp only [List.cons_append]); (try simp only [List.nil_append]); apply hK; clear hK K) | (refine phi_pureK rfl rfl (fun K hK => ?_); apply Exists.intro; constructor; (focus (rintro w' hI; (obtain ⟨q1', q2', q3', q4', q5', q6', q7', _⟩ := HC9.out.below hI; clear hI); first | (go_simp; done) | (go_simp; (try go_bits); (try go_simp); rfl) | go_simp)); simp only [Act.put, List.setIfInBounds_toArray, List.set_cons_succ, List.set_cons_zero]; (try simp only [List.cons_append]); (try simp only [List.nil_append]); apply hK; clear hK K))
      refine phi_partK (PBytL (mr8.rows)) rfl rfl ⟨_, none, 0, rfl⟩ ?_ (fun K hK v hv => ?_)
      · intro w' hI hf
        unfold gives
        clear hf
        go_simp
        refine (rowsOf_any w' j8 a p8 o8 _ _ (HP9.out.duo.below hI).jg.jn (by have := HLE8.out; omega)).mono ?_
        rintro e w'' ⟨v, rfl, ho, hb⟩
        rw [HER.out] at ho
        have hy : BytL w'' v mr8.rows := ho.bytl
        obtain ⟨q, c, _, rfl, _⟩ := id hy
        exact ⟨_, rfl, ⟨q, c, rfl⟩, hy, hb⟩
      obtain ⟨p_4, c_4, rfl⟩ := hv
      simp only [Act.put, List.setIfInBounds_toArray, List.set_cons_succ, List.set_cons_zero]; (try simp only [List.cons_append]); (try simp only [List.nil_append])
      apply hK
      clear hK K
      repeat (first | (refine phi_skipK rfl (fun K hK => ?_); simp only [Act.put, List.setIfInBounds_toArray, List.set_cons_succ, List.set_cons_zero]; (try simp only [List.cons_append]); (try simp only [List.nil_append]); apply hK; clear hK K) | (refine phi_pureK rfl rfl (fun K hK => ?_); apply Exists.intro; constructor; (focus (rintro w' hI; (obtain ⟨q1', q2', q3', q4', q5', q6', q7', _⟩ := HC9.out.below hI; clear hI); first | (go_simp; done) | (go_simp; (try go_bits); (try go_simp); rfl) | go_simp)); simp only [Act.put, List.setIfInBounds_toArray, List.set_cons_succ, List.set_cons_zero]; (try simp only [List.cons_append]); (try simp only [List.nil_append]); apply hK; clear hK K))
      refine phi_partK (PVal (.bool true)) rfl rfl ⟨_, rfl⟩ ?_ (fun K hK v hv => ?_)
      · intro w' hI hf
        have hbS : BytL w' _ mr8.rows := hf (4, fun w => (PBytL mr8.rows).fact w (.slice p_4 mr8.rows.length c_4)) (by simp) (List.contains_iff_mem.1 rfl)
        unfold gives
        clear hf
        go_simp
        refine (samel_any w' _ _ mr8.rows mr8.rows hbS (HC9.out.below hI).ls).mono ?_
        rintro e w'' ⟨rfl, hb⟩
        exact ⟨_, rfl, by rw [decide_eq_true (rfl : mr8.rows = mr8.rows)]; rfl, trivial, hb⟩
      obtain rfl : v = _ := hv
      simp only [Act.put, List.setIfInBounds_toArray, List.set_cons_succ, List.set_cons_zero]; (try simp only [List.cons_append]); (try simp only [List.nil_append])
      apply hK
      clear hK K
      repeat (first | (refine phi_skipK rfl (fun K hK => ?_); simp only [Act.put, List.setIfInBounds_toArray, List.set_cons_succ, List.set_cons_zero]; (try simp only [List.cons_append]); (try simp only [List.nil_append]); apply hK; clear hK K) | (refine phi_pureK rfl rfl (fun K hK => ?_); apply Exists.intro; constructor; (focus (rintro w' hI; (obtain ⟨q1', q2', q3', q4', q5', q6', q7', _⟩ := HC9.out.below hI; clear hI); first | (go_simp; done) | (go_simp; (try go_bits); (try go_simp); rfl) | go_simp)); simp only [Act.put, List.setIfInBounds_toArray, List.set_cons_succ, List.set_cons_zero]; (try simp only [List.cons_append]); (try simp only [List.nil_append]); apply hK; clear hK K))
      refine phi_partK (PVal (.int .i64 (mr8.rows.length : Int))) rfl rfl ⟨_, rfl⟩ ?_ (fun K hK v hv => ?_)
      · intro w' hI hf
        unfold gives
        clear hf
        go_simp
        refine (lenOf_any w' j8 a p8 o8 _ _ (HP9.out.duo.below hI).jg.jn).mono ?_
        rintro e w'' ⟨rfl, rfl⟩
        exact ⟨_, rfl, by show Value.int .i64 _ = Value.int .i64 _; rw [HER.out], trivial, Below.refl _ _⟩
      obtain rfl : v = _ := hv
      simp only [Act.put, List.setIfInBounds_toArray, List.set_cons_succ, List.set_cons_zero]; (try simp only [List.cons_append]); (try simp only [List.nil_append])
      apply hK
      clear hK K
      repeat (first | (refine phi_skipK rfl (fun K hK => ?_); simp only [Act.put, List.setIfInBounds_toArray, List.set_cons_succ, List.set_cons_zero]; (try simp only [List.cons_append]); (try simp only [List.nil_append]); apply hK; clear hK K) | (refine phi_pureK rfl rfl (fun K hK => ?_); apply Exists.intro; constructor; (focus (rintro w' hI; (obtain ⟨q1', q2', q3', q4', q5', q6', q7', _⟩ := HC9.out.below hI; clear hI); first | (go_simp; done) | (go_simp; (try go_bits); (try go_simp); rfl) | go_simp)); simp only [Act.put, List.setIfInBounds_toArray, List.set_cons_succ, List.set_cons_zero]; (try simp only [List.cons_append]); (try simp only [List.nil_append]); apply hK; clear hK K))
      refine phi_partK (PVal (.int .i64 ((framesJ mr8.rows).length : Int))) rfl rfl ⟨_, rfl⟩ ?_ (fun K hK v hv => ?_)
      · intro w' hI hf
        unfold gives
        clear hf
        go_simp
        refine (sizeOf_any w' j8 a p8 o8 _ _ (HP9.out.duo.below hI).jg.jn).mono ?_
        rintro e w'' ⟨rfl, rfl⟩
        exact ⟨_, rfl, by show Value.int .i64 _ = Value.int .i64 _; rw [HER.out], trivial, Below.refl _ _⟩
      obtain rfl : v = _ := hv
      simp only [Act.put, List.setIfInBounds_toArray, List.set_cons_succ, List.set_cons_zero]; (try simp only [List.cons_append]); (try simp only [List.nil_append])
      apply hK
      clear hK K
      repeat (first | (refine phi_skipK rfl (fun K hK => ?_); simp only [Act.put, List.setIfInBounds_toArray, List.set_cons_succ, List.set_cons_zero]; (try simp only [List.cons_append]); (try simp only [List.nil_append]); apply hK; clear hK K) | (refine phi_pureK rfl rfl (fun K hK => ?_); apply Exists.intro; constructor; (focus (rintro w' hI; (obtain ⟨q1', q2', q3', q4', q5', q6', q7', _⟩ := HC9.out.below hI; clear hI); first | (go_simp; done) | (go_simp; (try go_bits); (try go_simp); rfl) | go_simp)); simp only [Act.put, List.setIfInBounds_toArray, List.set_cons_succ, List.set_cons_zero]; (try simp only [List.cons_append]); (try simp only [List.nil_append]); apply hK; clear hK K))
      refine phi_partK (PVal (.bool mr8.dead)) rfl rfl ⟨_, rfl⟩ ?_ (fun K hK v hv => ?_)
      · intro w' hI hf
        unfold gives
        clear hf
        go_simp
        refine (deadOf_any w' j8 a p8 o8 _ _ (HP9.out.duo.below hI).jg.jn).mono ?_
        rintro e w'' ⟨rfl, rfl⟩
        exact ⟨_, rfl, by show Value.bool _ = Value.bool _; rw [HED.out], trivial, Below.refl _ _⟩
      obtain rfl : v = _ := hv
      simp only [Act.put, List.setIfInBounds_toArray, List.set_cons_succ, List.set_cons_zero]; (try simp only [List.cons_append]); (try simp only [List.nil_append])
      apply hK
      clear hK K
      repeat (first | (refine phi_skipK rfl (fun K hK => ?_); simp only [Act.put, List.setIfInBounds_toArray, List.set_cons_succ, List.set_cons_zero]; (try simp only [List.cons_append]); (try simp only [List.nil_append]); apply hK; clear hK K) | (refine phi_pureK rfl rfl (fun K hK => ?_); apply Exists.intro; constructor; (focus (rintro w' hI; (obtain ⟨q1', q2', q3', q4', q5', q6', q7', _⟩ := HC9.out.below hI; clear hI); first | (go_simp; done) | (go_simp; (try go_bits); (try go_simp); rfl) | go_simp)); simp only [Act.put, List.setIfInBounds_toArray, List.set_cons_succ, List.set_cons_zero]; (try simp only [List.cons_append]); (try simp only [List.nil_append]); apply hK; clear hK K))
      refine phi_partK (PByt (mr8.m.sure ++ mr8.m.tail)) rfl rfl ⟨_, none, 0, rfl⟩ ?_ (fun K hK v hv => ?_)
      · intro w' hI hf
        unfold gives
        clear hf
        go_simp
        refine (bytes_of_tape w' a o8 _ (HP9.out.duo.below hI).jg.jn.tape).mono ?_
        rintro e w'' ⟨v, rfl, ho, hb⟩
        rw [HTL.out] at ho
        obtain ⟨q, c, rfl, _⟩ := owns_rd ho
        exact ⟨_, rfl, ⟨q, c, rfl⟩, owns_byt ho, hb⟩
      obtain ⟨p_57, c_57, rfl⟩ := hv
      simp only [Act.put, List.setIfInBounds_toArray, List.set_cons_succ, List.set_cons_zero]; (try simp only [List.cons_append]); (try simp only [List.nil_append])
      apply hK
      clear hK K
      repeat (first | (refine phi_skipK rfl (fun K hK => ?_); simp only [Act.put, List.setIfInBounds_toArray, List.set_cons_succ, List.set_cons_zero]; (try simp only [List.cons_append]); (try simp only [List.nil_append]); apply hK; clear hK K) | (refine phi_pureK rfl rfl (fun K hK => ?_); apply Exists.intro; constructor; (focus (rintro w' hI; (obtain ⟨q1', q2', q3', q4', q5', q6', q7', _⟩ := HC9.out.below hI; clear hI); first | (go_simp; done) | (go_simp; (try go_bits); (try go_simp); rfl) | go_simp)); simp only [Act.put, List.setIfInBounds_toArray, List.set_cons_succ, List.set_cons_zero]; (try simp only [List.cons_append]); (try simp only [List.nil_append]); apply hK; clear hK K))
      refine phi_partK (PVal (.string (bs (mr8.m.sure ++ mr8.m.tail)))) rfl rfl ⟨_, rfl⟩ ?_ (fun K hK v hv => ?_)
      · intro w' hI hf
        have hbS : Byt w' _ (mr8.m.sure ++ mr8.m.tail) := hf (57, fun w => (PByt (mr8.m.sure ++ mr8.m.tail)).fact w (.slice p_57 (mr8.m.sure ++ mr8.m.tail).length c_57)) (by simp) (List.contains_iff_mem.1 rfl)
        have sS := str_of hbS
        rw [List.length_append] at sS
        clear hf hbS hI
        unfold gives
        go_simp
        exact ⟨rfl, trivial, Below.refl _ _⟩
      obtain rfl : v = _ := hv
      simp only [Act.put, List.setIfInBounds_toArray, List.set_cons_succ, List.set_cons_zero]; (try simp only [List.cons_append]); (try simp only [List.nil_append])
      apply hK
      clear hK K
      repeat (first | (refine phi_skipK rfl (fun K hK => ?_); simp only [Act.put, List.setIfInBounds_toArray, List.set_cons_succ, List.set_cons_zero]; (try simp only [List.cons_append]); (try simp only [List.nil_append]); apply hK; clear hK K) | (refine phi_pureK rfl rfl (fun K hK => ?_); apply Exists.intro; constructor; (focus (rintro w' hI; (obtain ⟨q1', q2', q3', q4', q5', q6', q7', _⟩ := HC9.out.below hI; clear hI); first | (go_simp; done) | (go_simp; (try go_bits); (try go_simp); rfl) | go_simp)); simp only [Act.put, List.setIfInBounds_toArray, List.set_cons_succ, List.set_cons_zero]; (try simp only [List.cons_append]); (try simp only [List.nil_append]); apply hK; clear hK K))
      refine phi_done ?_
      rintro w10 hI _
      refine wpList_nil ?_

      have HP10 := Lib.hid (HP9.out.below hI)
      have HB10 := Lib.hid (HB9.out.trans (hI.mono HB9.out.size))
      clear hI hsum
      go_wp2_with fail
      go_roundw
      case rel => exact ⟨k + 1, j8, m8, p8, o8, q8, st8, mr8, by omega, by go_num, HP10.out, by have := HN8.out; omega, HB10.out⟩
      case measure => simp [intOf]; omega
    · obtain rfl : k = os.length := by omega
      go_wp2_with fail
      go_ret
      exact ⟨rfl, hbr⟩
end Go.Proofs.YtoiknidlincdkaaDoor
