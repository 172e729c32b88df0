/-
  PlayDo4: the walk of play.do: Crash; and all kinds.
-/
import Derived.Test.YtoiknidlincdkaaDoorPlayDo3
namespace Go.Proofs.YtoiknidlincdkaaDoor
open Go.RowKit
attribute [local irreducible] wpPhi

theorem openE_crash (s : TSt) (n : Int) : openE (s.crash n) = 0 := by
  unfold openE TSt.cutE
  split
  · rename_i h
    rw [if_neg (by omega)]
    rfl
  · rfl
theorem openJ_le (s : TSt) (h : s.l.length ≤ 65536) : (openJ s).rows.length ≤ 65536 := by
  have h1 := (readJ_ok s.l).2.2
  have h2 := framesJ_many (readJ s.l).1
  show (readJ s.l).1.length ≤ 65536
  omega
theorem Duo.other {B : Nat} {S : List Nat} {w w' : World} {E : Nat → Addr} {a g j m : Nat} {p o q : Option Nat} {st : JSt} {mr : MJr} (h : Duo B w E a g j m p o q st mr) (k : But S w w') (hB : ∀ x ∈ S, B ≤ x) (hj : ∀ x ∈ jS j a p o, ¬ x ∈ S) (hm : ∀ x ∈ mS m g q, ¬ x ∈ S) (ht : ∀ x ∈ S, ∀ cs, ¬ Blk w x 5 cs) : Duo B w' E a g j m p o q st mr :=
  ⟨⟨h.jg.jn.but k (out_of hj) (fun x hx => .inr (ht x hx)), h.jg.base, Nat.le_trans h.jg.hB k.size, h.jg.glob.below (k.below hB h.jg.hB), nofun⟩, h.mn.but k hB hm (fun x hx => .inr (ht x hx)) Zx.rfl_, h.dis⟩
/-- another journal on the tape -/
theorem Duo.opened {B : Nat} {w w' : World} {E : Nat → Addr} {a g j j2 m : Nat} {p o q p' o' : Option Nat} {st st' : JSt} {mr : MJr} (h : Duo B w E a g j m p o q st mr) (hj : JG B w' E j2 a p' o' [] st') (hj2 : w.heap.size ≤ j2) (hp : ∀ b, p' = some b → w.heap.size ≤ b) (ho : Nx w o o') (k : But (a :: o.toList) w w') : Duo B w' E a g j2 m p' o' q st' mr := by
  obtain ⟨_, ⟨ca, ta⟩, _, to⟩ := h.jg.jn.types
  refine ⟨hj, h.mn.but k (fun x hx => h.jg.base x (jS_tape j a p o x hx)) (fun x hx hc => h.dis x (jS_tape j a p o x hc) hx) (fun x hx => ?_) (fun b hb => ?_), fun x hx hc => ?_⟩
  · rcases List.mem_cons.1 hx with rfl | hx
    · exact .inr fun cs hcs => Blk.ne_ hcs ta (by decide) rfl
    · exact .inl (Option.mem_toList.1 hx)
  · rcases ho with rfl | ho
    · exact .inl hb
    · exact .inr (ho b hb)
  · have hlt := h.mn.lt x hc
    rcases mem_jS.1 hx with hx | hx | hx | hx
    · omega
    · exact h.dis x (mem_jS.2 (.inr (.inl hx))) hc
    · have := hp x hx; omega
    · rcases ho with rfl | ho
      · exact h.dis x (mem_jS.2 (.inr (.inr (.inr hx)))) hc
      · have := ho x hx; omega
theorem Duo.mopened {B : Nat} {w w' : World} {E : Nat → Addr} {a g j m m2 : Nat} {p o q q' : Option Nat} {st : JSt} {mr mr' : MJr} (h : Duo B w E a g j m p o q st mr) (hm : Mn B w' m2 g q' (fun b => o = some b) mr') (hm2 : w.heap.size ≤ m2) (hq : ∀ b, q' = some b → w.heap.size ≤ b) (k : But [g] w w') : Duo B w' E a g j m2 p o q' st mr' := by
  obtain ⟨_, ⟨cg, tg⟩, _⟩ := h.mn.types
  have hgB : ∀ x ∈ [g], B ≤ x := fun x hx => by
    obtain rfl : x = g := by simpa using hx
    exact h.mn.base.2.1
  refine ⟨⟨h.jg.jn.but k (out_of fun x hx hc => h.dis x hx (mS_tape m g q x hc)) (fun x hx => .inr fun cs hcs => ?_), h.jg.base, Nat.le_trans h.jg.hB k.size, h.jg.glob.below (k.below hgB h.jg.hB), nofun⟩, hm, fun x hx hc => ?_⟩
  · obtain rfl : x = g := by simpa using hx
    exact Blk.ne_ hcs tg (by decide) rfl
  · have hlt := h.jg.jn.lt x hx
    rcases mem_mS.1 hc with hc | hc | hc
    · omega
    · exact h.dis x hx (mem_mS.2 (.inr (.inl hc)))
    · have := hq x hc; omega
theorem Duo.no {B : Nat} {w : World} {E : Nat → Addr} {a g j m P : Nat} {p o q : Option Nat} {st : JSt} {mr : MJr} {cs : Array Value} (h : Duo B w E a g j m p o q st mr) (hb : Blk w P 67 cs) :
    (∀ x ∈ jS j a p o, ¬ x ∈ [P]) ∧ (∀ x ∈ mS m g q, ¬ x ∈ [P]) ∧ ∀ x ∈ [P], ∀ cs, ¬ Blk w x 5 cs := by
  obtain ⟨⟨cj, tj⟩, ⟨ca, ta⟩, tp, to⟩ := h.jg.jn.types
  obtain ⟨⟨cm, tm⟩, ⟨cg, tg⟩, tq⟩ := h.mn.types
  refine ⟨fun x hx hc => ?_, fun x hx hc => ?_, fun x hx cs' hcs => ?_⟩
  · obtain rfl : x = P := by simpa using hc
    rcases mem_jS.1 hx with rfl | rfl | hx | hx
    · exact Blk.ne_ hb tj (by decide) rfl
    · exact Blk.ne_ hb ta (by decide) rfl
    · obtain ⟨cp, hcp⟩ := tp x hx
      exact Blk.ne_ hb hcp (by decide) rfl
    · obtain ⟨cp, hcp⟩ := to x hx
      exact Blk.ne_ hb hcp (by decide) rfl
  · obtain rfl : x = P := by simpa using hc
    rcases mem_mS.1 hx with rfl | rfl | hx
    · exact Blk.ne_ hb tm (by decide) rfl
    · exact Blk.ne_ hb tg (by decide) rfl
    · obtain ⟨cp, hcp⟩ := tq x hx
      exact Blk.ne_ hb hcp (by decide) rfl
  · obtain rfl : x = P := by simpa using hx
    exact Blk.ne_ hcs hb (by decide) rfl
theorem Tape.blk6 {B : Nat} {w w' : World} {E : Nat → Addr} {a g j m P : Nat} {p o q : Option Nat} {st : JSt} {mr : MJr} {cs : Array Value} (h : Duo B w E a g j m p o q st mr) (k : But (a :: o.toList) w w') (hb : Blk w P 67 cs) : Blk w' P 67 cs := by
  obtain ⟨_, ⟨ca, ta⟩, _, to⟩ := h.jg.jn.types
  refine k.blk hb ?_
  rw [Bool.eq_false_iff]
  intro hc
  rcases List.mem_cons.1 (List.contains_iff_mem.1 hc) with hx | hx
  · exact Blk.ne_ hb ta (by decide) hx
  · obtain ⟨cp, hcp⟩ := to P (Option.mem_toList.1 hx)
    exact Blk.ne_ hb hcp (by decide) rfl
theorem Tape.blk7 {B : Nat} {w w' : World} {E : Nat → Addr} {a g j m P : Nat} {p o q : Option Nat} {st : JSt} {mr : MJr} {cs : Array Value} (h : Duo B w E a g j m p o q st mr) (k : But [g] w w') (hb : Blk w P 67 cs) : Blk w' P 67 cs := by
  obtain ⟨_, ⟨cg, tg⟩, _⟩ := h.mn.types
  refine k.blk hb ?_
  have := Blk.ne_ hb tg (by decide)
  simpa using this
set_option maxRecDepth 20000 in
set_option maxHeartbeats 4000000 in
theorem do5_any (w : World) (E : Nat → Addr) (B P a g j m : Nat) (p o q : Option Nat) (st : JSt) (mr : MJr) (n : Int) (hn : -9223372036854775808 ≤ n ∧ n ≤ 9223372036854775807) (vl : Value) (ls : List (List UInt8)) (hv : OldL B w vl ls) (h : PlayW B w E P a g j m p o q st mr) (N : Nat) (hN : 65536 ≤ N) :
    Calls Tryd.prog 30 #[.pointer (some ⟨P, 0, none⟩), .agg #[.int .i64 5, .int .i64 n, vl]] w (DoJ B E P a g (N + 10) w) := by
  have HN := Lib.hid hn
  clear hn
  have HGL := Lib.hid h.duo.jg.glob
  obtain ⟨pl, cl, vs, rfl, _⟩ := hv
  have hbx := Blk.new w 49 #[.int .i64 5, .int .i64 n, .slice pl ls.length cl]
  have hkx := below_alloc1 w (.cells #[.int .i64 5, .int .i64 n, .slice pl ls.length cl] 49)
  have HX := Lib.hid hbx
  have HKX := Lib.hid (hkx.mono h.duo.jg.hB)
  have HBX := Lib.hid (Nat.le_trans h.duo.jg.hB hkx.size)
  have HDU := Lib.hid (h.duo.below hkx)
  have hpl := h.pl.below hkx h.pl.lt
  have HPL := Lib.hid hpl
  have HR := Lib.hid h.rel
  have HP := Lib.hid h.hP
  have c0 := (hbx.cell 0).trans rfl
  have c1 := (hbx.cell 1).trans rfl
  have k0 := (hpl.cell 0).trans rfl
  have k2 := (hpl.cell 2).trans rfl
  clear h hbx hkx hpl
  go_enter Tryd.func30, Tryd.ntmps30
  go_wp2_with fail
  generalize w.alloc (.cells #[.int .i64 5, .int .i64 n, .slice pl ls.length cl] 49) = w1 at *
  clear c0 c1 k0 k2
  have hbb : Below w1.heap.size w1 w1 := Below.refl _ _
  refine wp_phi_tail (List.take 6 _) (List.drop 6 _) (List.take_append_drop 6 _).symm (fun w' => (Blk w' P 67 #[.pointer (some ⟨a, 0, none⟩), .pointer (some ⟨j, 0, none⟩), .pointer (some ⟨m, 0, none⟩)]) ∧ (Blk w' w.heap.size 49 #[.int .i64 5, .int .i64 n, .slice pl ls.length cl]) ∧ Below w1.heap.size w1 w') [] [] (by kernel_rfl) (by kernel_rfl) ?_ ?_ ⟨HPL.out, HX.out, (hbb).drew⟩ ?_
  · rintro w1' w2' ⟨gP, gX, hIB⟩ hb
    exact ⟨(by first | exact gP.below hb | exact gP.keep (Below.keeps hb) | exact Below.keeps hb _ _ gP | exact Blk.below gP hb (Blk.lt gP)), (by first | exact gX.below hb | exact gX.keep (Below.keeps hb) | exact Below.keeps hb _ _ gX | exact Blk.below gX hb (Blk.lt gX)), hIB.trans (hb.mono hIB.size)⟩
  · intro p hp; cases hp
  simp only [List.take_succ_cons, List.take_zero, List.drop_succ_cons, List.drop_zero]
  repeat (first | (refine phi_skipK rfl (fun K hK => ?_); simp only [Act.put, List.setIfInBounds_toArray, List.set_cons_succ, List.set_cons_zero]; (try simp only [List.cons_append]); (try simp only [List.nil_append]); apply hK; clear hK K) | (refine phi_pureK rfl rfl (fun K hK => ?_); apply Exists.intro; constructor; (focus (rintro w' ⟨gP, gX, hIB⟩; have q0 := (gP.cell 0).trans rfl; have q1 := (gX.cell 1).trans rfl; clear gP gX hIB; first | (go_simp; done) | (go_simp; (try go_bits); (try go_simp); rfl) | go_simp)); simp only [Act.put, List.setIfInBounds_toArray, List.set_cons_succ, List.set_cons_zero]; (try simp only [List.cons_append]); (try simp only [List.nil_append]); apply hK; clear hK K))
  refine phi_done ?_
  rintro w2 ⟨gP, gX, hb2⟩ _
  have HD2 := Lib.hid (HDU.out.below hb2)
  have HX2 := Lib.hid gX
  have HP2 := Lib.hid gP
  have HK2 := Lib.hid (HKX.out.trans (hb2.mono HBX.out))
  clear gP gX hb2 hbb HX HPL HDU HKX HBX
  go_wp2_with fail
  refine (crash_any w2 a o st.t n HN.out HD2.out.jg.jn.tape).mono ?_
  rintro e w3 ⟨rfl, ht3, k3⟩
  obtain ⟨⟨o3, hd3⟩, hs3⟩ := HD2.out.tape ht3 k3
  have HD3 := Lib.hid hd3
  have HX3 := Lib.hid (hs3.blk HX2.out (by decide) (by decide) (by decide) (by decide))
  have HP3 := Lib.hid (hs3.blk HP2.out (by decide) (by decide) (by decide) (by decide))
  have HK3 := Lib.hid (HK2.out.trans hs3.below)
  clear ht3 k3 hd3 hs3 HX2 HP2 HD2 HK2
  go_wp2_with fail
  have hbb : Below w3.heap.size w3 w3 := Below.refl _ _
  have HC3 := Lib.hid (show w3.cell? ⟨m, 0, none⟩ = some (.pointer (some ⟨g, 0, none⟩)) from HD3.out.mn.cells.choose_spec.choose_spec.choose_spec.1)
  refine wp_phi_tail (List.take 9 _) (List.drop 9 _) (List.take_append_drop 9 _).symm (fun w' => (Blk w' P 67 #[.pointer (some ⟨a, 0, none⟩), .pointer (some ⟨j, 0, none⟩), .pointer (some ⟨m, 0, none⟩)]) ∧ (Blk w' w.heap.size 49 #[.int .i64 5, .int .i64 n, .slice pl ls.length cl]) ∧ (w'.cell? ⟨m, 0, none⟩ = some (.pointer (some ⟨g, 0, none⟩))) ∧ Below w3.heap.size w3 w') [] [] (by kernel_rfl) (by kernel_rfl) ?_ ?_ ⟨HP3.out, HX3.out, HC3.out, (hbb).drew⟩ ?_
  · rintro w1' w2' ⟨gP, gX, gc, hIB⟩ hb
    exact ⟨(by first | exact gP.below hb | exact gP.keep (Below.keeps hb) | exact Below.keeps hb _ _ gP | exact Blk.below gP hb (Blk.lt gP)), (by first | exact gX.below hb | exact gX.keep (Below.keeps hb) | exact Below.keeps hb _ _ gX | exact Blk.below gX hb (Blk.lt gX)), (by first | exact gc.below hb | exact gc.keep (Below.keeps hb) | exact Below.keeps hb _ _ gc | exact Blk.below gc hb (Blk.lt gc)), hIB.trans (hb.mono hIB.size)⟩
  · intro p hp; cases hp
  simp only [List.take_succ_cons, List.take_zero, List.drop_succ_cons, List.drop_zero]
  repeat (first | (refine phi_skipK rfl (fun K hK => ?_); simp only [Act.put, List.setIfInBounds_toArray, List.set_cons_succ, List.set_cons_zero]; (try simp only [List.cons_append]); (try simp only [List.nil_append]); apply hK; clear hK K) | (refine phi_pureK rfl rfl (fun K hK => ?_); apply Exists.intro; constructor; (focus (rintro w' ⟨gP, gX, gc, hIB⟩; have q0 := (gP.cell 2).trans rfl; have q1 := (gX.cell 1).trans rfl; clear gP gX hIB; first | (go_simp; done) | (go_simp; (try go_bits); (try go_simp); rfl) | go_simp)); simp only [Act.put, List.setIfInBounds_toArray, List.set_cons_succ, List.set_cons_zero]; (try simp only [List.cons_append]); (try simp only [List.nil_append]); apply hK; clear hK K))
  refine phi_done ?_
  rintro w4 ⟨gP, gX, gc, hb4⟩ _
  have HD4 := Lib.hid (HD3.out.below hb4)
  have HP4 := Lib.hid gP
  have HK4 := Lib.hid (HK3.out.trans (hb4.mono HD3.out.jg.hB))
  clear gP gX gc hb4 hbb HX3 HP3 HD3 HK3 HC3
  go_wp2_with fail
  refine (mcrash_any w4 g mr.m n HD4.out.mn.bd HD4.out.mn.tape).mono ?_
  rintro e w5 ⟨rfl, hm5, k5⟩
  have HRC := Lib.hid (HR.out.tape.crash n)
  obtain ⟨hd5, hs5⟩ := HD4.out.mtape hm5 k5 ⟨_, HRC.out⟩
  have HD5 := Lib.hid hd5
  have hp5 := hs5.blk HP4.out (by decide) (by decide) (by decide)
  have HP5 := Lib.hid hp5
  have HK5 := Lib.hid (HK4.out.trans hs5.below)
  have k0 := (hp5.cell 0).trans rfl
  clear hm5 k5 hd5 hs5 HP4 HD4 HK4 hp5
  have HOP := Lib.hid (RelJ.open HRC.out)
  go_wp2_with fail
  refine (open_any7 B w5 E a o3 [] (st.t.crash n) HD5.out.jg.jn.tape (openE_crash _ _) HD5.out.jg.glob HD5.out.jg.hB (fun x hx => HD5.out.jg.base x (jS_tape j a p o3 x hx)) nofun).mono ?_
  rintro e w6 ⟨rfl, ⟨p6, o6, hp6, ho6, hj6⟩, k6⟩
  have HD6 := Lib.hid (HD5.out.opened hj6 (Nat.le_refl _) hp6 ho6 k6)
  have hq6 := Tape.blk6 HD5.out k6 HP5.out
  have HP6 := Lib.hid hq6
  have HK6 := Lib.hid (HK5.out.trans (k6.below (fun x hx => HD5.out.jg.base x (jS_tape j a p o3 x hx)) HD5.out.jg.hB))
  have k2 := (hq6.cell 2).trans rfl
  have c6 := HD6.out.mn.cells.choose_spec.choose_spec.choose_spec.1
  generalize w5.heap.size = j6 at *
  clear hp6 ho6 hj6 k6 HP5 HD5 HK5 hq6 k0
  go_wp2_with fail
  refine (mopen_any B w6 g (mr.m.crash n) HD6.out.mn.tape ⟨_, HRC.out⟩ HD6.out.mn.base.2.1 (HOP.out.2.symm.trans (openE_crash _ _))).mono ?_
  rintro e w7 ⟨m7, q7, rfl, hm7, hl7, hq7, k7⟩
  have HD7 := Lib.hid (HD6.out.mopened (hm7 _ fun b hb => HD6.out.jg.jn.lt b (mem_jS.2 (.inr (.inr (.inr hb))))) hl7 hq7 k7)
  have hp7 := Tape.blk7 HD6.out k7 HP6.out
  have HP7 := Lib.hid hp7
  have HK7 := Lib.hid (HK6.out.trans (k7.below (fun x hx => by obtain rfl : x = g := (by simpa using hx); exact HD6.out.mn.base.2.1) HD6.out.jg.hB))
  have f1 := hp7.frozen 1
  have f2 := hp7.frozen 2
  have k1 := (hp7.cell 1).trans rfl
  have k2 := (hp7.cell 2).trans rfl
  clear hm7 hl7 hq7 k7 HP6 HD6 HK6 hp7 c6
  have HLN := Lib.hid HRC.out.ok.len
  go_wp2_with fail
  go_ret
  obtain ⟨n1, n2, n3⟩ := HD7.out.no HP7.out
  have hPB : ∀ x ∈ [P], B ≤ x := fun x hx => by
    obtain rfl : x = P := by simpa using hx
    exact HP.out
  have k : But [P] w7 ((w7.setCell ⟨P, 1, none⟩ (.pointer (some ⟨j6, 0, none⟩))).setCell ⟨P, 2, none⟩ (.pointer (some ⟨m7, 0, none⟩))) := ((but_refl [P] w7).set_ P 1 _ (by simp)).set_ P 2 _ (by simp)
  exact ⟨rfl, ⟨j6, m7, _, o6, q7, _, _, ⟨HD7.out.other k hPB n1 n2 n3, (HP7.out.set_ 1 (.pointer (some ⟨j6, 0, none⟩))).set_ 2 (.pointer (some ⟨m7, 0, none⟩)), HOP.out.1, HP.out⟩, Nat.le_trans (openJ_le _ HLN.out) (by omega)⟩, HK7.out.trans (k.below hPB HD7.out.jg.hB)⟩
/-- an op -/
theorem do_any7 (w : World) (E : Nat → Addr) (B P a g j m : Nat) (p o q : Option Nat) (st : JSt) (mr : MJr) (kd n : Int) (hn : -9223372036854775808 ≤ n ∧ n ≤ 9223372036854775807) (vl : Value) (ls : List (List UInt8)) (hv : OldL B w vl ls) (h : PlayW B w E P a g j m p o q st mr) (hl : ls.length ≤ 10) (N : Nat) (hN : st.rows.length ≤ N) (hN1 : 65536 ≤ N) (hN2 : N ≤ 90000) :
    Calls Tryd.prog 30 #[.pointer (some ⟨P, 0, none⟩), .agg #[.int .i64 kd, .int .i64 n, vl]] w (DoJ B E P a g (N + 10) w) := by
  by_cases h1 : kd = 1
  · subst h1; exact do1_any w E B P a g j m p o q st mr n vl ls hv h hl N hN hN2
  by_cases h2 : kd = 2
  · subst h2; exact do2_any w E B P a g j m p o q st mr n vl ls hv h hl N hN
  by_cases h3 : kd = 3
  · subst h3; exact do3_any w E B P a g j m p o q st mr n hn vl ls hv h N hN
  by_cases h4 : kd = 4
  · subst h4; exact do4_any w E B P a g j m p o q st mr n vl ls hv h N hN
  by_cases h5 : kd = 5
  · subst h5; exact do5_any w E B P a g j m p o q st mr n hn vl ls hv h N hN1
  exact do0_any w E B P a g j m p o q st mr kd n vl ls hv h N hN ⟨h1, h2, h3, h4, h5⟩
end Go.Proofs.YtoiknidlincdkaaDoor
