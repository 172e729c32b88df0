/-
  TapeDo: the walk of liaisonlaw06.do: an op on a tape and on its model.
-/
import Derived.Test.YtehoenojjdgphaaDoorTapeAlive
import Derived.Test.YtehoenojjdgphaaDoorTapeQ
import Derived.Test.YtehoenojjdgphaaDoorRefCrash
import Derived.Test.YtehoenojjdgphaaDoorNumBytes
import Derived.Test.YtehoenojjdgphaaDoorPhiU
namespace Go.Proofs.YtehoenojjdgphaaDoor
open Go.RowKit
attribute [local go_sem] bs_toList bs_size
attribute [local irreducible] wpPhiU

def refTs : List TypeId := [53]
def playTs : List TypeId := [42, 5, 53]
theorem byt_beside {w w' : World} {g : Nat} {T : TypeId} {cs : Array Value} {v : Value} {d : List UInt8} (hb : Blk w g T cs) (hcs : ∀ (i : Nat) (x : Int), cs[i]? ≠ some (.int .u8 x)) (h : Byt w v d) (k : Only g w w') : Byt w' v d := by
  obtain ⟨p, cap, rfl, h1, h2, h3⟩ := h
  refine ⟨p, cap, rfl, h1, h2, ?_⟩
  rcases h3 with h3 | ⟨b, off, hp, hc⟩
  · exact .inl h3
  · refine .inr ⟨b, off, hp, fun i u hu => ?_⟩
    have hcu := hc i u hu
    by_cases hbg : b = g
    · subst hbg
      rw [hb.cell] at hcu
      simp only [bvs, List.getElem?_map, Option.map_eq_some_iff] at hu
      obtain ⟨x, _, rfl⟩ := hu
      exact absurd hcu (hcs _ _)
    · exact (World.cell?_of_block (k.block b hbg)).trans hcu
theorem tcells_no (s : TSt) (q : Option Addr) (n c : Nat) (i : Nat) (x : Int) : (s.cells (.slice q n c))[i]? ≠ some (.int .u8 x) := by
  unfold TSt.cells
  match i with
  | 0 | 1 | 2 | 3 | 4 | 5 => simp
  | _ + 6 => simp
theorem mcells_no (m : MSt) (i : Nat) (x : Int) : (m.cells)[i]? ≠ some (.int .u8 x) := by
  unfold MSt.cells
  match i with
  | 0 | 1 | 2 | 3 | 4 => simp
  | _ + 5 => simp
theorem Tp.byt {w w' : World} {B a : Nat} {s : TSt} {v : Value} {d : List UInt8} (h : Tp w B a s) (hy : Byt w v d) (k : Only a w w') : Byt w' v d := by
  obtain ⟨vt, _, hb, ho, _⟩ := h
  obtain ⟨q, c, rfl, _⟩ := owns_rd ho
  exact byt_beside hb (tcells_no s q _ c) hy k
/-- a step of the model alone -/
def MStep (g : Nat) (m : MSt) (w w' : World) : Prop := Only g w w' ∧ MB w g m
theorem Tp.mstep {w w' : World} {B a g : Nat} {s : TSt} {m : MSt} (h : Tp w B a s) (k : MStep g m w w') : Tp w' B a s := by
  obtain ⟨vt, h1, hb, ho, hs⟩ := h
  have hne : a ≠ g := Blk.ne_ hb k.2 (by decide)
  exact ⟨vt, h1, k.1.blk hb hne, k.1.owns k.2 ho (by decide), hs⟩
theorem MStep.keeps {w w' : World} {B g : Nat} {m : MSt} (k : MStep g m w w') (hg : B ≤ g) : Keeps B playTs w w' := (Keeps.refl _ _ _).only hg k.2 rfl k.1
theorem play_of_tape {w w' : World} {B : Nat} (k : Keeps B tapeTs w w') : Keeps B playTs w w' := k.mono fun t h => by
  unfold playTs at h
  unfold tapeTs
  simp only [List.contains_cons, Bool.or_eq_false_iff, List.contains_nil, and_true] at h ⊢
  exact ⟨h.1, h.2.1⟩
/-- what an op leaves: the tape s and the model m, that answer alike -/
structure Both (w : World) (B a g : Nat) (s : TSt) (m : MSt) : Prop where
  tt : Tp w B a s
  mm : MB w g m
  rr : Rel s m
  gg : B ≤ g
def DoR (w : World) (B a g : Nat) (s' : TSt) (m' : MSt) (e : Ending) (w' : World) : Prop := e = .returned (.bool true) ∧ Both w' B a g s' m' ∧ Keeps B playTs w w'
/-- which calls turn what -/
def doRel (B g : Nat) (m : MSt) (jt jm : Nat) (j : Nat) (w w' : World) : Prop := if j = jt then Keeps B tapeTs w w' else if j = jm then MStep g m w w' else Below w.heap.size w w'
theorem doRel_t {B g : Nat} {m : MSt} {jt jm : Nat} {w w' : World} : doRel B g m jt jm jt w w' = Keeps B tapeTs w w' := by unfold doRel; rw [if_pos rfl]
theorem doRel_m {B g : Nat} {m : MSt} {jt jm : Nat} {w w' : World} (h : jm ≠ jt) : doRel B g m jt jm jm w w' = MStep g m w w' := by unfold doRel; rw [if_neg h, if_pos rfl]
theorem doRel_o {B g : Nat} {m : MSt} {jt jm j : Nat} {w w' : World} (h : j ≠ jt) (h2 : j ≠ jm) : doRel B g m jt jm j w w' = Below w.heap.size w w' := by unfold doRel; rw [if_neg h, if_neg h2]
theorem doRel_keeps {B g : Nat} {m : MSt} {jt jm j : Nat} {w w' : World} (hB : B ≤ w.heap.size) (hg : B ≤ g) (h : doRel B g m jt jm j w w') : Keeps B playTs w w' := by
  unfold doRel at h
  split at h
  · exact play_of_tape h
  · split at h
    · exact h.keeps hg
    · exact Keeps.of_below h hB
/-- a part with a fact -/
def PFact (c : Value) (F : World → Prop) : Part := ⟨fun v => v = c, fun w _ => F w⟩
def PB (d : List UInt8) : Part := ⟨fun v => ∃ p cap, v = .slice p d.length cap, fun w v => Byt w v d⟩
theorem appendE_le (s : TSt) (d : List UInt8) : s.appendE d ≤ 14 := by unfold TSt.appendE TSt.stepE; split <;> (try split) <;> omega
theorem swapE_le (s : TSt) (d : List UInt8) : s.swapE d ≤ 14 := by unfold TSt.swapE TSt.stepE; split <;> (try split) <;> omega
set_option maxRecDepth 20000 in
set_option maxHeartbeats 4000000 in
theorem do1_any (w : World) (E : Nat → Addr) (B a g : Nat) (s : TSt) (m : MSt) (n : Int) (vd : Value) (d : List UInt8) (hn : -9223372036854775808 ≤ n ∧ n ≤ 9223372036854775807) (hl : d.length ≤ 400)
    (hB : B ≤ w.heap.size) (hE : ∀ w', Below B w w' → Errs w' E) (hd : ∀ w', Below B w w' → Byt w' vd d) (hb : Both w B a g s m) :
    Calls Tryd.prog 21 #[.pointer (some ⟨a, 0, none⟩), .pointer (some ⟨g, 0, none⟩), .agg #[.int .i64 1, .int .i64 n, vd]] w (DoR w B a g (s.append d) (m.append d)) := by
  have HE := Lib.hid hE
  have HD := Lib.hid hd
  have HB := Lib.hid hB
  have HG := Lib.hid hb.gg
  obtain ⟨pd, cd, hvd, _⟩ := hd w (Below.refl _ _)
  subst hvd
  have hbx := Blk.new w 50 #[.int .i64 1, .int .i64 n, .slice pd d.length cd]
  have hkx := below_alloc1 w (.cells #[.int .i64 1, .int .i64 n, .slice pd d.length cd] 50)
  have HX := Lib.hid hbx
  have HKX := Lib.hid (Keeps.of_below hkx hB : Keeps B playTs w _)
  have HBX := Lib.hid (Nat.le_trans hB hkx.size)
  have HT := Lib.hid (hb.tt.below hkx)
  have HM := Lib.hid (show MB _ g m from Blk.below hb.mm hkx (Blk.lt hb.mm))
  have HR := Lib.hid hb.rr
  have c0 := (hbx.cell 0).trans rfl
  have c1 := (hbx.cell 1).trans rfl
  have c2 := (hbx.cell 2).trans rfl
  clear hE hd hB hb hkx hbx
  go_enter Tryd.func21, Tryd.ntmps21
  go_wp2_with fail
  generalize w.alloc (.cells #[.int .i64 1, .int .i64 n, .slice pd d.length cd] 50) = wx at *
  refine wp_phiU (doRel B g m 4 10) (fun w' => Keeps B playTs wx w') [(3, PB d), (4, PFact (errV E (s.appendE d)) fun w' => Tp w' B a (s.append d)), (5, PVal (.int .i64 (s.appendE d : Int))), (10, PFact (.int .i64 (m.appendE d : Int)) fun w' => MB w' g (m.append d))] [(4, [3])] [(4, fun w' => Tp w' B a s), (10, fun w' => MB w' g m)] [(3, 4)] (by kernel_rfl) (by kernel_rfl) ?_ ?_ ?_ ?_ (Keeps.refl _ _ _).drew ?_
  · intro p hp w1 w2 h1 h2
    exact h1.trans (doRel_keeps (Nat.le_trans HBX.out h1.size) HG.out h2)
  · simp only [List.mem_cons, List.not_mem_nil, or_false, forall_eq_or_imp, forall_eq]
    refine ⟨⟨fun h => absurd rfl h, fun _ h => absurd rfl h, ?_, ?_⟩, ⟨?_, fun h => absurd rfl h, ?_, ?_⟩, ⟨?_, ?_, fun h => absurd rfl h, ?_⟩, ⟨?_, ?_, ?_, fun h => absurd rfl h⟩⟩
    all_goals intro _ _ _ w1 w2 v hI h hf
    · rw [doRel_o (by decide) (by decide)] at h; exact Byt.below hf h
    · rw [doRel_m (by decide)] at h; exact byt_beside h.2 (mcells_no m) hf h.1
    · rw [doRel_o (by decide) (by decide)] at h; exact Tp.below hf h
    · rw [doRel_o (by decide) (by decide)] at h; exact Tp.below hf h
    · rw [doRel_m (by decide)] at h; exact Tp.mstep hf h
    · trivial
    · trivial
    · trivial
    · rw [doRel_o (by decide) (by decide)] at h; exact Blk.below hf h (Blk.lt hf)
    · rw [doRel_t] at h; exact h.blk (t := 53) hf (by decide)
    · rw [doRel_o (by decide) (by decide)] at h; exact Blk.below hf h (Blk.lt hf)
  · simp only [List.mem_cons, List.not_mem_nil, or_false, forall_eq_or_imp, forall_eq]
    refine ⟨⟨?_, ?_⟩, ⟨fun h => absurd rfl h, ?_⟩, ⟨?_, ?_⟩, ⟨?_, fun h => absurd rfl h⟩⟩
    all_goals intro _ w1 w2 hI h hf
    · rw [doRel_o (by decide) (by decide)] at h; exact Tp.below hf h
    · rw [doRel_o (by decide) (by decide)] at h; exact Blk.below hf h (Blk.lt hf)
    · rw [doRel_t] at h; exact h.blk (t := 53) hf (by decide)
    · rw [doRel_o (by decide) (by decide)] at h; exact Tp.below hf h
    · rw [doRel_o (by decide) (by decide)] at h; exact Blk.below hf h (Blk.lt hf)
    · rw [doRel_m (by decide)] at h; exact Tp.mstep hf h
  · simp only [List.mem_cons, List.not_mem_nil, or_false, forall_eq_or_imp, forall_eq]
    exact ⟨HT.out.below (Below.refl _ _).drew, HM.out⟩
  repeat (first | (refine phiU_skipK rfl (fun K hK => ?_); simp only [Act.put, List.setIfInBounds_toArray, List.set_cons_succ, List.set_cons_zero]; (try simp only [List.cons_append]); (try simp only [List.nil_append]); apply hK; clear hK K) | (refine phiU_pureK rfl rfl (fun K hK => ?_); apply Exists.intro; constructor; (rintro w' hI; have q0 := (hI.blk HX.out rfl).cell 2; have q1 := str_of (HD.out w' (HKX.out.trans hI).below); clear hI; first | (go_simp; (try go_bits); (try go_simp); rfl) | go_simp); simp only [Act.put, List.setIfInBounds_toArray, List.set_cons_succ, List.set_cons_zero]; (try simp only [List.cons_append]); (try simp only [List.nil_append]); apply hK; clear hK K))
  refine phiU_partK (PB d) rfl rfl ⟨_, none, 0, rfl⟩ ?_ (fun K hK v hv => ?_)
  · intro w' hI hf hu
    unfold gives
    clear hf hu
    go_simp
    refine (bytes_any _ d w' (by omega) (HD.out w' (HKX.out.trans hI).below)).mono ?_
    rintro e w'' ⟨v, rfl, hm, hb⟩
    obtain ⟨q, c, rfl, _⟩ := id hm.byt
    exact ⟨_, rfl, ⟨q, c, rfl⟩, hm.byt, by rw [doRel_o (by decide) (by decide)]; exact hb⟩
  obtain ⟨p3, c3, rfl⟩ := hv
  simp only [Act.put, List.setIfInBounds_toArray, List.set_cons_succ, List.set_cons_zero]; (try simp only [List.cons_append]); (try simp only [List.nil_append])
  apply hK
  clear hK K
  repeat (first | (refine phiU_skipK rfl (fun K hK => ?_); simp only [Act.put, List.setIfInBounds_toArray, List.set_cons_succ, List.set_cons_zero]; (try simp only [List.cons_append]); (try simp only [List.nil_append]); apply hK; clear hK K) | (refine phiU_pureK rfl rfl (fun K hK => ?_); apply Exists.intro; constructor; (rintro w' hI; have q0 := (hI.blk HX.out rfl).cell 2; have q1 := str_of (HD.out w' (HKX.out.trans hI).below); clear hI; first | (go_simp; (try go_bits); (try go_simp); rfl) | go_simp); simp only [Act.put, List.setIfInBounds_toArray, List.set_cons_succ, List.set_cons_zero]; (try simp only [List.cons_append]); (try simp only [List.nil_append]); apply hK; clear hK K))
  refine phiU_partK (PFact (errV E (s.appendE d)) fun w' => Tp w' B a (s.append d)) rfl rfl ⟨_, rfl⟩ ?_ (fun K hK v hv => ?_)
  · intro w' hI hf hu
    have hy : Byt w' (.slice p3 d.length c3) d := hf (3, fun w => (PB d).fact w (.slice p3 d.length c3)) (by simp) (List.contains_iff_mem.1 rfl) rfl
    have ht : Tp w' B a s := hu (4, fun w' => Tp w' B a s) (by simp) rfl
    unfold gives
    clear hf hu
    go_simp
    refine (append_any w' E B a s _ d ((HE.out w' (HKX.out.trans hI).below).on [5, 6] rfl) ht (Nat.le_trans HBX.out hI.size) hy (fun w'' k => ht.byt hy k) (by omega)).mono ?_
    rintro e w'' ⟨rfl, ht2, hk⟩
    exact ⟨_, rfl, rfl, ht2, by rw [doRel_t]; exact hk⟩
  obtain rfl : v = _ := hv
  simp only [Act.put, List.setIfInBounds_toArray, List.set_cons_succ, List.set_cons_zero]; (try simp only [List.cons_append]); (try simp only [List.nil_append])
  apply hK
  clear hK K
  repeat (first | (refine phiU_skipK rfl (fun K hK => ?_); simp only [Act.put, List.setIfInBounds_toArray, List.set_cons_succ, List.set_cons_zero]; (try simp only [List.cons_append]); (try simp only [List.nil_append]); apply hK; clear hK K) | (refine phiU_pureK rfl rfl (fun K hK => ?_); apply Exists.intro; constructor; (rintro w' hI; have q0 := (hI.blk HX.out rfl).cell 2; have q1 := str_of (HD.out w' (HKX.out.trans hI).below); clear hI; first | (go_simp; (try go_bits); (try go_simp); rfl) | go_simp); simp only [Act.put, List.setIfInBounds_toArray, List.set_cons_succ, List.set_cons_zero]; (try simp only [List.cons_append]); (try simp only [List.nil_append]); apply hK; clear hK K))
  refine phiU_partK (PVal (.int .i64 (s.appendE d : Int))) rfl rfl ⟨_, rfl⟩ ?_ (fun K hK v hv => ?_)
  · intro w' hI hf hu
    unfold gives
    clear hf hu
    go_simp
    refine (num_any w' E (s.appendE d) (appendE_le s d) (HE.out w' (HKX.out.trans hI).below)).mono ?_
    rintro e w'' ⟨rfl, hb⟩
    exact ⟨_, rfl, rfl, trivial, by rw [doRel_o (by decide) (by decide)]; exact hb⟩
  obtain rfl : v = _ := hv
  simp only [Act.put, List.setIfInBounds_toArray, List.set_cons_succ, List.set_cons_zero]; (try simp only [List.cons_append]); (try simp only [List.nil_append])
  apply hK
  clear hK K
  repeat (first | (refine phiU_skipK rfl (fun K hK => ?_); simp only [Act.put, List.setIfInBounds_toArray, List.set_cons_succ, List.set_cons_zero]; (try simp only [List.cons_append]); (try simp only [List.nil_append]); apply hK; clear hK K) | (refine phiU_pureK rfl rfl (fun K hK => ?_); apply Exists.intro; constructor; (rintro w' hI; have q0 := (hI.blk HX.out rfl).cell 2; have q1 := str_of (HD.out w' (HKX.out.trans hI).below); clear hI; first | (go_simp; (try go_bits); (try go_simp); rfl) | go_simp); simp only [Act.put, List.setIfInBounds_toArray, List.set_cons_succ, List.set_cons_zero]; (try simp only [List.cons_append]); (try simp only [List.nil_append]); apply hK; clear hK K))
  refine phiU_partK (PFact (.int .i64 (m.appendE d : Int)) fun w' => MB w' g (m.append d)) rfl rfl ⟨_, rfl⟩ ?_ (fun K hK v hv => ?_)
  · intro w' hI hf hu
    have hm : MB w' g m := hu (10, fun w' => MB w' g m) (by simp) rfl
    unfold gives
    clear hf hu
    go_simp
    refine (mappend_any w' g m d (by omega) HR.out.bd hm).mono ?_
    rintro e w'' ⟨rfl, hm2, hk⟩
    exact ⟨_, rfl, rfl, hm2, by rw [doRel_m (by decide)]; exact ⟨hk, hm⟩⟩
  obtain rfl : v = _ := hv
  simp only [Act.put, List.setIfInBounds_toArray, List.set_cons_succ, List.set_cons_zero]; (try simp only [List.cons_append]); (try simp only [List.nil_append])
  apply hK
  clear hK K
  rw [(HR.out.append d).2]
  repeat (first | (refine phiU_skipK rfl (fun K hK => ?_); simp only [Act.put, List.setIfInBounds_toArray, List.set_cons_succ, List.set_cons_zero]; (try simp only [List.cons_append]); (try simp only [List.nil_append]); apply hK; clear hK K) | (refine phiU_pureK rfl rfl (fun K hK => ?_); apply Exists.intro; constructor; (rintro w' hI; clear hI; first | (go_simp; (try go_bits); (try go_simp); rfl) | go_simp); simp only [Act.put, List.setIfInBounds_toArray, List.set_cons_succ, List.set_cons_zero]; (try simp only [List.cons_append]); (try simp only [List.nil_append]); apply hK; clear hK K))
  refine phiU_done ?_
  intro w9 hI hf
  have ht9 : Tp w9 B a (s.append d) := hf (4, fun w => (PFact (errV E (m.appendE d)) fun w' => Tp w' B a (s.append d)).fact w (errV E (m.appendE d))) (by simp) rfl
  have hm9 : MB w9 g (m.append d) := hf (10, fun w => (PFact (.int .i64 (m.appendE d : Int)) fun w' => MB w' g (m.append d)).fact w (.int .i64 (m.appendE d : Int))) (by simp) rfl
  clear hf
  refine wpList_nil ?_
  go_wp2_with fail
  go_ret
  exact ⟨rfl, ⟨ht9, hm9, (HR.out.append d).1, HG.out⟩, HKX.out.trans hI⟩
set_option maxRecDepth 20000 in
set_option maxHeartbeats 4000000 in
theorem do3_any (w : World) (E : Nat → Addr) (B a g : Nat) (s : TSt) (m : MSt) (n : Int) (vd : Value) (d : List UInt8) (hn : -9223372036854775808 ≤ n ∧ n ≤ 9223372036854775807) (hl : d.length ≤ 400)
    (hB : B ≤ w.heap.size) (hE : ∀ w', Below B w w' → Errs w' E) (hd : ∀ w', Below B w w' → Byt w' vd d) (hb : Both w B a g s m) :
    Calls Tryd.prog 21 #[.pointer (some ⟨a, 0, none⟩), .pointer (some ⟨g, 0, none⟩), .agg #[.int .i64 3, .int .i64 n, vd]] w (DoR w B a g (s.swap d) (m.swap d)) := by
  have HE := Lib.hid hE
  have HD := Lib.hid hd
  have HB := Lib.hid hB
  have HG := Lib.hid hb.gg
  obtain ⟨pd, cd, hvd, _⟩ := hd w (Below.refl _ _)
  subst hvd
  have hbx := Blk.new w 50 #[.int .i64 3, .int .i64 n, .slice pd d.length cd]
  have hkx := below_alloc1 w (.cells #[.int .i64 3, .int .i64 n, .slice pd d.length cd] 50)
  have HX := Lib.hid hbx
  have HKX := Lib.hid (Keeps.of_below hkx hB : Keeps B playTs w _)
  have HBX := Lib.hid (Nat.le_trans hB hkx.size)
  have HT := Lib.hid (hb.tt.below hkx)
  have HM := Lib.hid (show MB _ g m from Blk.below hb.mm hkx (Blk.lt hb.mm))
  have HR := Lib.hid hb.rr
  have c0 := (hbx.cell 0).trans rfl
  have c1 := (hbx.cell 1).trans rfl
  have c2 := (hbx.cell 2).trans rfl
  clear hE hd hB hb hkx hbx
  go_enter Tryd.func21, Tryd.ntmps21
  go_wp2_with fail
  generalize w.alloc (.cells #[.int .i64 3, .int .i64 n, .slice pd d.length cd] 50) = wx at *
  refine wp_phiU (doRel B g m 4 10) (fun w' => Keeps B playTs wx w') [(3, PB d), (4, PFact (errV E (s.swapE d)) fun w' => Tp w' B a (s.swap d)), (5, PVal (.int .i64 (s.swapE d : Int))), (10, PFact (.int .i64 (m.swapE d : Int)) fun w' => MB w' g (m.swap d))] [(4, [3])] [(4, fun w' => Tp w' B a s), (10, fun w' => MB w' g m)] [(3, 4)] (by kernel_rfl) (by kernel_rfl) ?_ ?_ ?_ ?_ (Keeps.refl _ _ _).drew ?_
  · intro p hp w1 w2 h1 h2
    exact h1.trans (doRel_keeps (Nat.le_trans HBX.out h1.size) HG.out h2)
  · simp only [List.mem_cons, List.not_mem_nil, or_false, forall_eq_or_imp, forall_eq]
    refine ⟨⟨fun h => absurd rfl h, fun _ h => absurd rfl h, ?_, ?_⟩, ⟨?_, fun h => absurd rfl h, ?_, ?_⟩, ⟨?_, ?_, fun h => absurd rfl h, ?_⟩, ⟨?_, ?_, ?_, fun h => absurd rfl h⟩⟩
    all_goals intro _ _ _ w1 w2 v hI h hf
    · rw [doRel_o (by decide) (by decide)] at h; exact Byt.below hf h
    · rw [doRel_m (by decide)] at h; exact byt_beside h.2 (mcells_no m) hf h.1
    · rw [doRel_o (by decide) (by decide)] at h; exact Tp.below hf h
    · rw [doRel_o (by decide) (by decide)] at h; exact Tp.below hf h
    · rw [doRel_m (by decide)] at h; exact Tp.mstep hf h
    · trivial
    · trivial
    · trivial
    · rw [doRel_o (by decide) (by decide)] at h; exact Blk.below hf h (Blk.lt hf)
    · rw [doRel_t] at h; exact h.blk (t := 53) hf (by decide)
    · rw [doRel_o (by decide) (by decide)] at h; exact Blk.below hf h (Blk.lt hf)
  · simp only [List.mem_cons, List.not_mem_nil, or_false, forall_eq_or_imp, forall_eq]
    refine ⟨⟨?_, ?_⟩, ⟨fun h => absurd rfl h, ?_⟩, ⟨?_, ?_⟩, ⟨?_, fun h => absurd rfl h⟩⟩
    all_goals intro _ w1 w2 hI h hf
    · rw [doRel_o (by decide) (by decide)] at h; exact Tp.below hf h
    · rw [doRel_o (by decide) (by decide)] at h; exact Blk.below hf h (Blk.lt hf)
    · rw [doRel_t] at h; exact h.blk (t := 53) hf (by decide)
    · rw [doRel_o (by decide) (by decide)] at h; exact Tp.below hf h
    · rw [doRel_o (by decide) (by decide)] at h; exact Blk.below hf h (Blk.lt hf)
    · rw [doRel_m (by decide)] at h; exact Tp.mstep hf h
  · simp only [List.mem_cons, List.not_mem_nil, or_false, forall_eq_or_imp, forall_eq]
    exact ⟨HT.out.below (Below.refl _ _).drew, HM.out⟩
  repeat (first | (refine phiU_skipK rfl (fun K hK => ?_); simp only [Act.put, List.setIfInBounds_toArray, List.set_cons_succ, List.set_cons_zero]; (try simp only [List.cons_append]); (try simp only [List.nil_append]); apply hK; clear hK K) | (refine phiU_pureK rfl rfl (fun K hK => ?_); apply Exists.intro; constructor; (rintro w' hI; have q0 := (hI.blk HX.out rfl).cell 2; have q1 := str_of (HD.out w' (HKX.out.trans hI).below); clear hI; first | (go_simp; (try go_bits); (try go_simp); rfl) | go_simp); simp only [Act.put, List.setIfInBounds_toArray, List.set_cons_succ, List.set_cons_zero]; (try simp only [List.cons_append]); (try simp only [List.nil_append]); apply hK; clear hK K))
  refine phiU_partK (PB d) rfl rfl ⟨_, none, 0, rfl⟩ ?_ (fun K hK v hv => ?_)
  · intro w' hI hf hu
    unfold gives
    clear hf hu
    go_simp
    refine (bytes_any _ d w' (by omega) (HD.out w' (HKX.out.trans hI).below)).mono ?_
    rintro e w'' ⟨v, rfl, hm, hb⟩
    obtain ⟨q, c, rfl, _⟩ := id hm.byt
    exact ⟨_, rfl, ⟨q, c, rfl⟩, hm.byt, by rw [doRel_o (by decide) (by decide)]; exact hb⟩
  obtain ⟨p3, c3, rfl⟩ := hv
  simp only [Act.put, List.setIfInBounds_toArray, List.set_cons_succ, List.set_cons_zero]; (try simp only [List.cons_append]); (try simp only [List.nil_append])
  apply hK
  clear hK K
  repeat (first | (refine phiU_skipK rfl (fun K hK => ?_); simp only [Act.put, List.setIfInBounds_toArray, List.set_cons_succ, List.set_cons_zero]; (try simp only [List.cons_append]); (try simp only [List.nil_append]); apply hK; clear hK K) | (refine phiU_pureK rfl rfl (fun K hK => ?_); apply Exists.intro; constructor; (rintro w' hI; have q0 := (hI.blk HX.out rfl).cell 2; have q1 := str_of (HD.out w' (HKX.out.trans hI).below); clear hI; first | (go_simp; (try go_bits); (try go_simp); rfl) | go_simp); simp only [Act.put, List.setIfInBounds_toArray, List.set_cons_succ, List.set_cons_zero]; (try simp only [List.cons_append]); (try simp only [List.nil_append]); apply hK; clear hK K))
  refine phiU_partK (PFact (errV E (s.swapE d)) fun w' => Tp w' B a (s.swap d)) rfl rfl ⟨_, rfl⟩ ?_ (fun K hK v hv => ?_)
  · intro w' hI hf hu
    have hy : Byt w' (.slice p3 d.length c3) d := hf (3, fun w => (PB d).fact w (.slice p3 d.length c3)) (by simp) (List.contains_iff_mem.1 rfl) rfl
    have ht : Tp w' B a s := hu (4, fun w' => Tp w' B a s) (by simp) rfl
    unfold gives
    clear hf hu
    go_simp
    refine (swap_any w' E B a s _ d ((HE.out w' (HKX.out.trans hI).below).on [5, 6] rfl) ht (Nat.le_trans HBX.out hI.size) hy (fun w'' k => ht.byt hy k)).mono ?_
    rintro e w'' ⟨rfl, ht2, hk⟩
    exact ⟨_, rfl, rfl, ht2, by rw [doRel_t]; exact hk⟩
  obtain rfl : v = _ := hv
  simp only [Act.put, List.setIfInBounds_toArray, List.set_cons_succ, List.set_cons_zero]; (try simp only [List.cons_append]); (try simp only [List.nil_append])
  apply hK
  clear hK K
  repeat (first | (refine phiU_skipK rfl (fun K hK => ?_); simp only [Act.put, List.setIfInBounds_toArray, List.set_cons_succ, List.set_cons_zero]; (try simp only [List.cons_append]); (try simp only [List.nil_append]); apply hK; clear hK K) | (refine phiU_pureK rfl rfl (fun K hK => ?_); apply Exists.intro; constructor; (rintro w' hI; have q0 := (hI.blk HX.out rfl).cell 2; have q1 := str_of (HD.out w' (HKX.out.trans hI).below); clear hI; first | (go_simp; (try go_bits); (try go_simp); rfl) | go_simp); simp only [Act.put, List.setIfInBounds_toArray, List.set_cons_succ, List.set_cons_zero]; (try simp only [List.cons_append]); (try simp only [List.nil_append]); apply hK; clear hK K))
  refine phiU_partK (PVal (.int .i64 (s.swapE d : Int))) rfl rfl ⟨_, rfl⟩ ?_ (fun K hK v hv => ?_)
  · intro w' hI hf hu
    unfold gives
    clear hf hu
    go_simp
    refine (num_any w' E (s.swapE d) (swapE_le s d) (HE.out w' (HKX.out.trans hI).below)).mono ?_
    rintro e w'' ⟨rfl, hb⟩
    exact ⟨_, rfl, rfl, trivial, by rw [doRel_o (by decide) (by decide)]; exact hb⟩
  obtain rfl : v = _ := hv
  simp only [Act.put, List.setIfInBounds_toArray, List.set_cons_succ, List.set_cons_zero]; (try simp only [List.cons_append]); (try simp only [List.nil_append])
  apply hK
  clear hK K
  repeat (first | (refine phiU_skipK rfl (fun K hK => ?_); simp only [Act.put, List.setIfInBounds_toArray, List.set_cons_succ, List.set_cons_zero]; (try simp only [List.cons_append]); (try simp only [List.nil_append]); apply hK; clear hK K) | (refine phiU_pureK rfl rfl (fun K hK => ?_); apply Exists.intro; constructor; (rintro w' hI; have q0 := (hI.blk HX.out rfl).cell 2; have q1 := str_of (HD.out w' (HKX.out.trans hI).below); clear hI; first | (go_simp; (try go_bits); (try go_simp); rfl) | go_simp); simp only [Act.put, List.setIfInBounds_toArray, List.set_cons_succ, List.set_cons_zero]; (try simp only [List.cons_append]); (try simp only [List.nil_append]); apply hK; clear hK K))
  refine phiU_partK (PFact (.int .i64 (m.swapE d : Int)) fun w' => MB w' g (m.swap d)) rfl rfl ⟨_, rfl⟩ ?_ (fun K hK v hv => ?_)
  · intro w' hI hf hu
    have hm : MB w' g m := hu (10, fun w' => MB w' g m) (by simp) rfl
    unfold gives
    clear hf hu
    go_simp
    refine (mswap_any w' g m d HR.out.bd hm).mono ?_
    rintro e w'' ⟨rfl, hm2, hk⟩
    exact ⟨_, rfl, rfl, hm2, by rw [doRel_m (by decide)]; exact ⟨hk, hm⟩⟩
  obtain rfl : v = _ := hv
  simp only [Act.put, List.setIfInBounds_toArray, List.set_cons_succ, List.set_cons_zero]; (try simp only [List.cons_append]); (try simp only [List.nil_append])
  apply hK
  clear hK K
  rw [(HR.out.swap d).2]
  repeat (first | (refine phiU_skipK rfl (fun K hK => ?_); simp only [Act.put, List.setIfInBounds_toArray, List.set_cons_succ, List.set_cons_zero]; (try simp only [List.cons_append]); (try simp only [List.nil_append]); apply hK; clear hK K) | (refine phiU_pureK rfl rfl (fun K hK => ?_); apply Exists.intro; constructor; (rintro w' hI; clear hI; first | (go_simp; (try go_bits); (try go_simp); rfl) | go_simp); simp only [Act.put, List.setIfInBounds_toArray, List.set_cons_succ, List.set_cons_zero]; (try simp only [List.cons_append]); (try simp only [List.nil_append]); apply hK; clear hK K))
  refine phiU_done ?_
  intro w9 hI hf
  have ht9 : Tp w9 B a (s.swap d) := hf (4, fun w => (PFact (errV E (m.swapE d)) fun w' => Tp w' B a (s.swap d)).fact w (errV E (m.swapE d))) (by simp) rfl
  have hm9 : MB w9 g (m.swap d) := hf (10, fun w => (PFact (.int .i64 (m.swapE d : Int)) fun w' => MB w' g (m.swap d)).fact w (.int .i64 (m.swapE d : Int))) (by simp) rfl
  clear hf
  refine wpList_nil ?_
  go_wp2_with fail
  go_ret
  exact ⟨rfl, ⟨ht9, hm9, (HR.out.swap d).1, HG.out⟩, HKX.out.trans hI⟩
end Go.Proofs.YtehoenojjdgphaaDoor
