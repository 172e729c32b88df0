/- LawSpR -/
import Derived.Test.YtkghpmpmcafhkaaGreatDoorPS
import Derived.Test.YtkghpmpmcafhkaaGreatDoorPU
import Derived.Test.YtkghpmpmcafhkaaGreatDoorRG
import Derived.Test.YtkghpmpmcafhkaaGreatDoorRH
import Derived.Test.YtkghpmpmcafhkaaGreatDoorPQ
import Derived.Test.YtkghpmpmcafhkaaGreatDoorPN
import Derived.Test.YtkghpmpmcafhkaaGreatDoorRK
import Derived.Test.YtkghpmpmcafhkaaGreatDoorRL
import Derived.Test.YtkghpmpmcafhkaaGreatDoorPO
namespace Go.Proofs.YtkghpmpmcafhkaaGreatDoor
set_option maxHeartbeats 8000000
set_option maxRecDepth 40000
open Go.RowKit Go.Extern.Stop Go.Stop Go.Extern
attribute [local go_sem] bs_toList
attribute [local irreducible] wpPhi
theorem trc_four {w : World} {P : Nat → Prop} {x : Tr} {cs : List Value} (h : TrC w P x cs) (hn : x.ok 1) : ∃ s0 p1 n1 c1 p2 n2 c2 s3, cs = [.string s0, .slice p1 n1 c1, .slice p2 n2 c2, .string s3] := by
  obtain ⟨nm, ats, ks, t⟩ := x
  unfold Tr.ok at hn
  obtain ⟨a, rfl⟩ := one_of hn.1
  unfold TrC at h
  obtain ⟨pa, ca, pk, ck, css, rfl, _⟩ := h
  exact ⟨_, _, _, _, _, _, _, _, rfl⟩
theorem trc_five {w : World} {P : Nat → Prop} {x : Tr} {cs : List Value} (h : TrC w P x cs) (hn : x.ok 2) : ∃ s0 s1 p1 n1 c1 p2 n2 c2 s3, cs = [.string s0, .string s1, .slice p1 n1 c1, .slice p2 n2 c2, .string s3] := by
  obtain ⟨nm, ats, ks, t⟩ := x
  unfold Tr.ok at hn
  obtain ⟨a, b, rfl⟩ := two_of hn.1
  unfold TrC at h
  obtain ⟨pa, ca, pk, ck, css, rfl, _⟩ := h
  exact ⟨_, _, _, _, _, _, _, _, _, rfl⟩
theorem zeroE_of (w : World) : TrC w (fun _ => True) zeroE [.string ⟨#[]⟩, .string ⟨#[]⟩, .slice none 0 0, .slice none 0 0, .string ⟨#[]⟩] := by
  unfold zeroE TrC
  exact ⟨none, 0, none, 0, [], rfl, ⟨Nat.le_refl _, by unfold maxLen; omega, .inl rfl, fun _ _ => trivial⟩, ⟨Nat.le_refl _, by unfold maxLen; omega, .inl rfl, fun _ _ => trivial⟩, (by unfold TrL; rfl)⟩
def noN (o : Option Tr) : Nat := if o.isSome then 0 else 4
theorem res24x (E : Nat → Addr) (x : Tr) (P : Nat → Prop) (cx : List Value) (w : World) (hg : LibG w) (hE : Errs w E) (hok : x.ok 1) (hsh : x.shr) (hfw : x.few) (hk : ((resolveF x).getD zeroE).ok 2) (hT : TrC w P x cx) :
    Calls Tryz.prog 13 #[.agg cx.toArray] w fun e w' => ∃ s0 s1 p1 n1 c1 p2 n2 c2 s3, e = .returned (.tuple #[.agg #[.string s0, .string s1, .slice p1 n1 c1, .slice p2 n2 c2, .string s3], errV E (noN (resolveF x))]) ∧
      TrC w' (fun _ => True) ((resolveF x).getD zeroE) [.string s0, .string s1, .slice p1 n1 c1, .slice p2 n2 c2, .string s3] ∧ Below w.heap.size w w' := by
  refine (resolve_any E x P cx w hg hE hok hsh hfw hT).mono ?_
  rintro e w' ⟨hb, ⟨y, c0, c1, c2, c3, c4, h1, rfl, h3⟩ | ⟨h1, rfl⟩⟩
  · rw [h1] at hk ⊢
    obtain ⟨s0, s1, p1, n1, c1, p2, n2, c2, s3, e⟩ := trc_five h3 hk
    cases e
    exact ⟨s0, s1, p1, n1, c1, p2, n2, c2, s3, rfl, h3.imp fun _ _ => trivial, hb⟩
  · rw [h1]
    exact ⟨_, _, _, _, _, _, _, _, _, rfl, zeroE_of _, hb⟩
theorem PcL.two {w : World} {v : Value} {ps : List Pc} (h : PcL w v ps) : ∀ o ∈ ps, ∀ a ∈ o.ats, a.length = 1 + 1 := by
  obtain ⟨p, cap, _, _, _, h4⟩ := h
  intro o ho
  obtain ⟨i, hi, rfl⟩ := List.getElem_of_mem ho
  obtain ⟨_, _, _, _, _, _, _, _, _, _, _, _, _, _, hk, _⟩ := h4 i _ (List.getElem?_eq_getElem hi)
  exact hk
end Go.Proofs.YtkghpmpmcafhkaaGreatDoor
namespace Go.Proofs.YtkghpmpmcafhkaaGreatDoor
set_option maxHeartbeats 8000000
set_option maxRecDepth 40000
open Go.RowKit Go.Extern.Stop Go.Stop Go.Extern
attribute [local go_sem] bs_toList
attribute [local irreducible] wpPhi
theorem zeroX_of (w : World) : TrC w (fun _ => True) zeroX [.string ⟨#[]⟩, .slice none 0 0, .slice none 0 0, .string ⟨#[]⟩] := by
  unfold zeroX TrC
  exact ⟨none, 0, none, 0, [], rfl, ⟨Nat.le_refl _, by unfold maxLen; omega, .inl rfl, fun _ _ => trivial⟩, ⟨Nat.le_refl _, by unfold maxLen; omega, .inl rfl, fun _ _ => trivial⟩, (by unfold TrL; rfl)⟩
theorem write_some {x y : Tr} (h : writeF x = some y) : (∃ z, x.wri (x.meet []) = some z ∧ y = withDecl (x.meet []) z) ∧ resolveF y = some x := by
  unfold writeF at h
  obtain ⟨z, hz, h⟩ := Option.bind_eq_some_iff.1 h
  obtain ⟨b, hb, h⟩ := Option.bind_eq_some_iff.1 h
  split at h
  · rename_i he
    cases h
    exact ⟨⟨z, hz, rfl⟩, by rw [hb, Tr.eqb_eq b x he]⟩
  · cases h
theorem wri_in {x : Tr} (hx : x.ok 2) (hc : x.cap 20 200) (hs : x.sz ≤ 30) : ((writeF x).getD zeroX).ok 1 ∧ ((writeF x).getD zeroX).shr ∧ ((writeF x).getD zeroX).few := by
  cases h : writeF x with
  | none => exact ⟨⟨rfl, by simp, trivial⟩, ⟨by simp [shS], by simp, by simp [shS], trivial⟩, ⟨by simp, by simp, trivial⟩⟩
  | some y =>
    obtain ⟨⟨z, hz, rfl⟩, _⟩ := write_some h
    have := fits_of hx hc hs hz
    exact ⟨this.1, this.2.1, this.2.2.1⟩
theorem wr24x (E : Nat → Addr) (x : Tr) (P : Nat → Prop) (cx : List Value) (w : World) (hg : LibG w) (hE : Errs w E) (hok : x.ok 2) (hsz : x.ssz 1000) (hnm : x.nms.length ≤ 40000) (hk : ((writeF x).getD zeroX).ok 1) (hT : TrC w P x cx) :
    Calls Tryz.prog 20 #[.agg cx.toArray] w fun e w' => ∃ s0 p1 n1 c1 p2 n2 c2 s3, e = .returned (.tuple #[.agg #[.string s0, .slice p1 n1 c1, .slice p2 n2 c2, .string s3], errV E (noN (writeF x))]) ∧
      TrC w' (fun _ => True) ((writeF x).getD zeroX) [.string s0, .slice p1 n1 c1, .slice p2 n2 c2, .string s3] ∧ Below w.heap.size w w' := by
  refine (write_any E x P cx w hg hE hok hsz hnm hT).mono ?_
  rintro e w' ⟨hb, ⟨y, c0, c1, c2, c3, h1, rfl, h3⟩ | ⟨h1, rfl⟩⟩
  · rw [h1] at hk ⊢
    obtain ⟨s0, p1, n1, c1, p2, n2, c2, s3, e⟩ := trc_four h3 hk
    cases e
    exact ⟨s0, p1, n1, c1, p2, n2, c2, s3, rfl, h3.imp fun _ _ => trivial, hb⟩
  · rw [h1]
    exact ⟨_, _, _, _, _, _, _, _, rfl, zeroX_of _, hb⟩
theorem rwr24x (x : Tr) (P : Nat → Prop) (cx : List Value) (w : World) (hok : x.ok 2) (hsh : x.shr) (hfw : x.few) (hsz : x.sz ≤ 1000) (hnm : x.nms.length ≤ 40000) (hfit : ∀ y, x.wri (x.meet []) = some y → Fits (withDecl (x.meet []) y)) (hk : ((writeF x).getD zeroX).ok 1) (hPw : ∀ b, P b → b < w.heap.size) (hT : TrC w P x cx) :
    Calls Tryz.prog 21 #[.agg cx.toArray] w fun e w' => ∃ s0 p1 n1 c1 p2 n2 c2 s3, e = .returned (.tuple #[.agg #[.string s0, .slice p1 n1 c1, .slice p2 n2 c2, .string s3], .int .i64 (noN (writeF x))]) ∧
      TrC w' (fun _ => True) ((writeF x).getD zeroX) [.string s0, .slice p1 n1 c1, .slice p2 n2 c2, .string s3] ∧ Below w.heap.size w w' := by
  refine (rWrite_any x P cx w hok hsh hfw hsz hnm hfit hPw hT).mono ?_
  rintro e w' ⟨hb, ⟨y, c0, c1, c2, c3, h1, rfl, h3⟩ | ⟨h1, rfl⟩⟩
  · rw [h1] at hk ⊢
    obtain ⟨s0, p1, n1, c1, p2, n2, c2, s3, e⟩ := trc_four h3 hk
    cases e
    exact ⟨s0, p1, n1, c1, p2, n2, c2, s3, rfl, h3.imp fun _ _ => trivial, hb⟩
  · rw [h1]
    exact ⟨_, _, _, _, _, _, _, _, rfl, zeroX_of _, hb⟩
def PTr1 (x : Tr) (B0 : Nat) : Part :=
  ⟨fun v => ∃ c0 c1 c2 c3, v = .agg #[c0, c1, c2, c3], fun w v => ∃ cs B, v = .agg cs.toArray ∧ TrC w (Bt B0 B none) x cs ∧ B ≤ w.heap.size⟩
theorem PTr1_stays {x : Tr} {B0 : Nat} {w w' : World} {v : Value} (hb : Below w.heap.size w w') (h : (PTr1 x B0).fact w v) : (PTr1 x B0).fact w' v := by
  obtain ⟨cs, B, h1, h2, h3⟩ := h
  exact ⟨cs, B, h1, h2.below hb, Nat.le_trans h3 hb.size⟩
theorem cells4c {w : World} {P : Nat → Prop} {x : Tr} {cs : List Value} (h : TrC w P x cs) (hx : x.ok 1) : ∃ c0 c1 c2 c3, cs = [c0, c1, c2, c3] := by
  obtain ⟨s0, p1, n1, c1, p2, n2, c2, s3, rfl⟩ := trc_four h hx
  exact ⟨_, _, _, _, rfl⟩
theorem writes_any (E : Nat → Addr) (rv : Value) (ps : List Pc) (w : World) (hg : LibG w) (hE : Errs w E) (h : PcL w rv ps) :
    Calls Tryz.prog 4 #[rv] w (fun e w' => e = .returned (.bool true) ∧ Below w.heap.size w w') := by
  have HG := Lib.hid hg
  have HE := Lib.hid hE
  have HAL := Lib.hid (alive24_any E w hg hE)
  have HPC := Lib.hid h
  have HBG := Lib.hid (fun w1 (hb : Below w.heap.size w w1) => big_any rv ps w1 (h.keep hb))
  cases hbig : bigF ps
  rotate_left 1
  · rw [hbig] at HBG
    clear hg hE h hbig
    go_enter Tryz.func4, Tryz.ntmps4
    go_wp2_with fail
    refine HAL.out.mono ?_
    rintro e w1 ⟨rfl, hb1⟩
    have HB1 := Lib.hid hb1
    clear hb1
    go_wp2_with fail
    refine (HBG.out w1 HB1.out).mono ?_
    rintro e w2 ⟨rfl, hb2⟩
    have HB2 := Lib.hid (HB1.out.trans (hb2.mono HB1.out.size))
    clear hb2
    go_wp2_with fail
    go_ret
    exact ⟨rfl, HB2.out⟩
  have HBN := Lib.hid (big_no hbig)
  have HCAP := Lib.hid (elem_cap hbig ps.length 0)
  have HSZ := Lib.hid (elem_sz hbig)
  have HALL := Lib.hid (cap_all HCAP.out.1 HSZ.out (by omega) (by omega) (by omega) (by omega))
  have HTR := Lib.hid (fun w1 w2 (hb : Below w.heap.size w w1) (hb2 : Below w1.heap.size w1 w2) => elem24_any ps rv w1 (h.keep hb) (by have := HBN.out.2.1; omega) (fun o ho => by have := (HBN.out.2.2 o ho).2.2.2.1; omega) ps.length 0 w2 hb2 (by have := HBN.out.1; omega) (by omega))
  rw [hbig] at HBG
  generalize elemN ps ps.length 0 = X at *
  have HR := Lib.hid (wri_in HCAP.out.2 HCAP.out.1 HSZ.out)
  have HYX := Lib.hid (show noN (writeF X) = 0 → resolveF ((writeF X).getD zeroX) = some X from fun hn => by
    cases hw : writeF X with
    | none => rw [hw] at hn; exact absurd hn (by decide)
    | some y => exact (write_some hw).2)
  have HSSZ := Lib.hid (show X.ssz 1000 from ssz_le (by omega) X HALL.out.1)
  have HWR := Lib.hid (fun cx w1 (hb : Below w.heap.size w w1) (hT : TrC w1 (fun _ => True) X cx) => wr24x E X _ cx w1 (hg.below hb) (hE.below hb) HCAP.out.2 HSSZ.out (by have := HALL.out.2.2.2.2.2.1; omega) HR.out.1 hT)
  have HRW := Lib.hid (fun P cx w1 (hP : ∀ b, P b → b < w1.heap.size) (hT : TrC w1 P X cx) => rwr24x X P cx w1 HCAP.out.2 HALL.out.2.1 HALL.out.2.2.1 HALL.out.2.2.2.2.1 (by have := HALL.out.2.2.2.2.2.1; omega) (fun y hy => fits_of HCAP.out.2 HCAP.out.1 HSZ.out hy) HR.out.1 hP hT)
  generalize (writeF X).getD zeroX = Y at *
  have hnn : noN (writeF X) = 0 ∨ noN (writeF X) = 4 := by unfold noN; split <;> omega
  generalize noN (writeF X) = nn at *
  have HNUM := Lib.hid (fun w1 (hb : Below w.heap.size w w1) => num_any w1 E nn (by omega) (hE.below hb))
  have HNN := Lib.hid hnn
  clear hg hE h hbig hnn
  go_enter Tryz.func4, Tryz.ntmps4
  go_wp2_with fail
  refine HAL.out.mono ?_
  rintro e w1 ⟨rfl, hb1⟩
  have HB1 := Lib.hid hb1
  clear hb1
  go_wp2_with fail
  refine (HBG.out w1 HB1.out).mono ?_
  rintro e w2 ⟨rfl, hb2⟩
  have HB12 := Lib.hid hb2
  have HB2 := Lib.hid (HB1.out.trans (hb2.mono HB1.out.size))
  clear hb2
  go_wp2_with fail
  refine (HTR.out w1 w2 HB1.out HB12.out).mono ?_
  rintro e w3 ⟨cs, rfl, hT3, hb3⟩
  have hT := TrX.plain _ _ hT3
  obtain ⟨s0, s1, p1, n1, c1, p2, n2, c2, s3, rfl⟩ := trc_five hT HCAP.out.2
  have HBA := Lib.hid (below_alloc1 w3 (.cells #[.string s0, .string s1, .slice p1 n1 c1, .slice p2 n2 c2, .string s3] 35))
  have HTX := Lib.hid (hT.below HBA.out)
  have HB3 := Lib.hid (HB2.out.trans ((hb3.trans (HBA.out.mono hb3.size)).mono HB2.out.size))
  have HN := Lib.hid (Blk.new w3 35 #[.string s0, .string s1, .slice p1 n1 c1, .slice p2 n2 c2, .string s3])
  have x0 := (HN.out.cell 0).trans rfl
  have x1 := (HN.out.cell 1).trans rfl
  have x2 := (HN.out.cell 2).trans rfl
  have x3 := (HN.out.cell 3).trans rfl
  have x4 := (HN.out.cell 4).trans rfl
  clear hT3 hT hb3
  go_wp2_with fail
  generalize w3.alloc (.cells #[.string s0, .string s1, .slice p1 n1 c1, .slice p2 n2 c2, .string s3] 35) = w4 at *
  generalize w3.heap.size = gx at *
  refine (HWR.out _ w4 HB3.out HTX.out).mono ?_
  rintro e w5 ⟨t0, q1, m1, d1, q2, m2, d2, t3, rfl, hT5, hb5⟩
  have HBA5 := Lib.hid (below_alloc1 w5 (.cells #[.string t0, .slice q1 m1 d1, .slice q2 m2 d2, .string t3] 28))
  have HB45 := Lib.hid (hb5.trans (HBA5.out.mono hb5.size))
  have HB5 := Lib.hid (HB3.out.trans (HB45.out.mono HB3.out.size))
  have HTX5 := Lib.hid (HTX.out.below HB45.out)
  have HTY5 := Lib.hid (hT5.below HBA5.out)
  have HN5 := Lib.hid (HN.out.below HB45.out HN.out.lt)
  have HM5 := Lib.hid (Blk.new w5 28 #[.string t0, .slice q1 m1 d1, .slice q2 m2 d2, .string t3])
  clear x0 x1 x2 x3 x4 hT5 hb5
  have x0 := (HN5.out.cell 0).trans rfl
  have x1 := (HN5.out.cell 1).trans rfl
  have x2 := (HN5.out.cell 2).trans rfl
  have x3 := (HN5.out.cell 3).trans rfl
  have x4 := (HN5.out.cell 4).trans rfl
  go_wp2_with fail
  generalize w5.alloc (.cells #[.string t0, .slice q1 m1 d1, .slice q2 m2 d2, .string t3] 28) = w6 at *
  generalize w5.heap.size = gy at *
  refine (told24_any _ X _ _ w6 (Nat.le_refl _) HCAP.out.2 HALL.out.2.2.2.1 HTX5.out).mono ?_
  rintro e w7 ⟨cs, rfl, hT7, hb7⟩
  have HB67 := Lib.hid hb7
  have HB7 := Lib.hid (HB5.out.trans (hb7.mono HB5.out.size))
  have HN7 := Lib.hid (HN5.out.below hb7 HN5.out.lt)
  have HM7 := Lib.hid (HM5.out.below hb7 HM5.out.lt)
  have HTX7 := Lib.hid (HTX5.out.below hb7)
  have HTY7 := Lib.hid (HTY5.out.below hb7)
  have HT7 := Lib.hid hT7
  clear x0 x1 x2 x3 x4 hT7 hb7
  go_wp2_with fail
  refine (HRW.out _ _ w7 (fun b hb => hb.2.1) HT7.out).mono ?_
  rintro e w8 ⟨u0, a1, b1, e1, a2, b2, e2, u3, rfl, hT8, hb8⟩
  have HBA8 := Lib.hid (below_alloc1 w8 (.cells #[.string u0, .slice a1 b1 e1, .slice a2 b2 e2, .string u3] 50))
  have HB78 := Lib.hid (hb8.trans (HBA8.out.mono hb8.size))
  have HB8 := Lib.hid (HB7.out.trans (HB78.out.mono HB7.out.size))
  have HN8 := Lib.hid (HN7.out.below HB78.out HN7.out.lt)
  have HM8 := Lib.hid (HM7.out.below HB78.out HM7.out.lt)
  have HTX8 := Lib.hid (HTX7.out.below HB78.out)
  have HTY8 := Lib.hid (HTY7.out.below HB78.out)
  have HTZ8 := Lib.hid (hT8.below HBA8.out)
  have HZ8 := Lib.hid (Blk.new w8 50 #[.string u0, .slice a1 b1 e1, .slice a2 b2 e2, .string u3])
  clear hT8 hb8
  go_wp2_with fail
  generalize w8.alloc (.cells #[.string u0, .slice a1 b1 e1, .slice a2 b2 e2, .string u3] 50) = w9 at *
  generalize w8.heap.size = gz at *
  refine wp_phi (fun w' => Blk w' gy 28 #[.string t0, .slice q1 m1 d1, .slice q2 m2 d2, .string t3] ∧ Blk w' gz 50 #[.string u0, .slice a1 b1 e1, .slice a2 b2 e2, .string u3] ∧ Below w9.heap.size w9 w') [(1, PTr1 Y w.heap.size), (3, PVal (.bool true)), (7, PVal (.int .i64 nn))] [(3, [1])] (by kernel_rfl) (by kernel_rfl) ?_ ?_ ⟨HM8.out, HZ8.out, (Below.refl _ _).drew⟩ ?_
  · rintro w1' w2' ⟨g1, g2, g4⟩ hb
    exact ⟨g1.below hb g1.lt, g2.below hb g2.lt, g4.trans (hb.mono g4.size)⟩
  · simp only [List.mem_cons, List.not_mem_nil, or_false, forall_eq_or_imp, forall_eq]
    exact ⟨fun _ _ _ _ hb h => PTr1_stays hb h, fun _ _ _ _ _ h => h, fun _ _ _ _ _ h => h⟩
  repeat (first | (refine phi_skipK rfl (fun K hK => ?_); simp only [Act.put, List.setIfInBounds_toArray, List.set_cons_succ, List.set_cons_zero, List.cons_append, List.nil_append]; apply hK; clear hK K) | (refine phi_pureK rfl rfl (fun K hK => ?_); apply Exists.intro; constructor; (focus (rintro w' ⟨f1, f2, hIB⟩; (have q0 := (f1.cell 0).trans rfl; have q1 := (f1.cell 1).trans rfl; have q2 := (f1.cell 2).trans rfl; have q3 := (f1.cell 3).trans rfl; clear f1 f2 hIB); first | (go_simp; done) | (go_simp; (try go_bits); (try go_simp); rfl) | go_simp)); simp only [Act.put, List.setIfInBounds_toArray, List.set_cons_succ, List.set_cons_zero, List.cons_append, List.nil_append]; apply hK; clear hK K))
  refine phi_partK (PTr1 Y w.heap.size) rfl rfl ⟨_, .nilIface, .nilIface, .nilIface, .nilIface, rfl⟩ ?_ (fun K hK v hv => ?_)
  · rintro w' ⟨f1, f2, hIB⟩ _
    have HS := Lib.hid (Nat.le_trans HB8.out.size hIB.size)
    have HK := Lib.hid (plain24_any _ Y _ _ w' (Nat.le_refl _) HR.out.1 (few_sm _ HR.out.2.2) (HTY8.out.below hIB))
    clear f1 f2 hIB
    unfold gives
    go_simp
    refine HK.out.mono ?_
    rintro e w'' ⟨cs, rfl, hcs, hb⟩
    obtain ⟨d0, d1, d2, d3, rfl⟩ := cells4c hcs HR.out.1
    exact ⟨_, rfl, ⟨d0, d1, d2, d3, rfl⟩, ⟨_, w''.heap.size, rfl, hcs.imp (fun b hb => ⟨Nat.le_trans HS.out hb.1, hb.2⟩), Nat.le_refl _⟩, hb⟩
  obtain ⟨d0, d1, d2, d3, rfl⟩ := hv
  simp only [Act.put, List.setIfInBounds_toArray, List.set_cons_succ, List.set_cons_zero, List.cons_append, List.nil_append]
  apply hK
  clear hK K
  repeat (first | (refine phi_skipK rfl (fun K hK => ?_); simp only [Act.put, List.setIfInBounds_toArray, List.set_cons_succ, List.set_cons_zero, List.cons_append, List.nil_append]; apply hK; clear hK K) | (refine phi_pureK rfl rfl (fun K hK => ?_); apply Exists.intro; constructor; (focus (rintro w' ⟨f1, f2, hIB⟩; (have q0 := (f2.cell 0).trans rfl; have q1 := (f2.cell 1).trans rfl; have q2 := (f2.cell 2).trans rfl; have q3 := (f2.cell 3).trans rfl; clear f1 f2 hIB); first | (go_simp; done) | (go_simp; (try go_bits); (try go_simp); rfl) | go_simp)); simp only [Act.put, List.setIfInBounds_toArray, List.set_cons_succ, List.set_cons_zero, List.cons_append, List.nil_append]; apply hK; clear hK K))
  refine phi_partK (PVal (.bool true)) rfl rfl ⟨_, rfl⟩ ?_ (fun K hK v hv => ?_)
  · rintro w' ⟨_, _, hIB⟩ hf
    obtain ⟨cs1, B1, ecs1, hcs1, _⟩ := hf (1, fun w1 => (PTr1 Y w.heap.size).fact w1 (.agg #[d0, d1, d2, d3])) (by simp) (List.contains_iff_mem.1 rfl)
    injection ecs1 with ecs1
    have e1 : cs1 = [d0, d1, d2, d3] := by
      have := congrArg Array.toList ecs1
      simpa using this.symm
    subst e1
    have HSA := Lib.hid (refsame1_any _ Y Y _ _ _ _ w' (Nat.le_refl _) HR.out.1 HR.out.1 hcs1 (HTZ8.out.below hIB))
    rw [Tr.eqb_refl] at HSA
    clear hIB hf hcs1 ecs1
    unfold gives
    go_simp
    refine HSA.out.mono ?_
    rintro e w'' ⟨rfl, hb⟩
    exact ⟨_, rfl, rfl, trivial, hb⟩
  obtain rfl : v = _ := hv
  simp only [Act.put, List.setIfInBounds_toArray, List.set_cons_succ, List.set_cons_zero, List.cons_append, List.nil_append]
  apply hK
  clear hK K
  repeat (first | (refine phi_skipK rfl (fun K hK => ?_); simp only [Act.put, List.setIfInBounds_toArray, List.set_cons_succ, List.set_cons_zero, List.cons_append, List.nil_append]; apply hK; clear hK K) | (refine phi_pureK rfl rfl (fun K hK => ?_); apply Exists.intro; constructor; (focus (rintro w' ⟨f1, f2, hIB⟩; (clear f1 f2 hIB); first | (go_simp; done) | (go_simp; (try go_bits); (try go_simp); rfl) | go_simp)); simp only [Act.put, List.setIfInBounds_toArray, List.set_cons_succ, List.set_cons_zero, List.cons_append, List.nil_append]; apply hK; clear hK K))
  refine phi_partK (PVal (.int .i64 nn)) rfl rfl ⟨_, rfl⟩ ?_ (fun K hK v hv => ?_)
  · rintro w' ⟨_, _, hIB⟩ hf
    have HK := Lib.hid (HNUM.out w' (HB8.out.trans (hIB.mono HB8.out.size)))
    clear hIB hf
    unfold gives
    go_simp
    refine HK.out.mono ?_
    rintro e w'' ⟨rfl, hb⟩
    exact ⟨_, rfl, rfl, trivial, hb⟩
  obtain rfl : v = _ := hv
  simp only [Act.put, List.setIfInBounds_toArray, List.set_cons_succ, List.set_cons_zero, List.cons_append, List.nil_append]
  apply hK
  clear hK K
  repeat (first | (refine phi_skipK rfl (fun K hK => ?_); simp only [Act.put, List.setIfInBounds_toArray, List.set_cons_succ, List.set_cons_zero, List.cons_append, List.nil_append]; apply hK; clear hK K) | (refine phi_pureK rfl rfl (fun K hK => ?_); apply Exists.intro; constructor; (focus (rintro w' ⟨f1, f2, hIB⟩; (clear f1 f2 hIB); first | (go_simp; done) | (go_simp; (try go_bits); (try go_simp); rfl) | go_simp)); simp only [Act.put, List.setIfInBounds_toArray, List.set_cons_succ, List.set_cons_zero, List.cons_append, List.nil_append]; apply hK; clear hK K))
  refine phi_done ?_
  rintro wz ⟨f1, f2, hbz⟩ _
  refine wpList_nil ?_
  have HBZ := Lib.hid (HB8.out.trans (hbz.mono HB8.out.size))
  have HMZ := Lib.hid f1
  have HNZ := Lib.hid (HN8.out.below hbz HN8.out.lt)
  have HTXZ := Lib.hid (HTX8.out.below hbz)
  have HTYZ := Lib.hid (HTY8.out.below hbz)
  clear f1 f2 hbz
  rcases HNN.out with h0 | h4
  rotate_left 1
  · subst h4
    go_wp2_with fail
    go_ret
    exact ⟨rfl, HBZ.out⟩
  subst h0
  have y0 := (HMZ.out.cell 0).trans rfl
  have y1 := (HMZ.out.cell 1).trans rfl
  have y2 := (HMZ.out.cell 2).trans rfl
  have y3 := (HMZ.out.cell 3).trans rfl
  have HRB0 := res24x E Y _ _ wz (HG.out.below HBZ.out) (HE.out.below HBZ.out) HR.out.1 HR.out.2.1 HR.out.2.2 (by rw [HYX.out rfl]; exact HCAP.out.2) HTYZ.out
  rw [HYX.out rfl] at HRB0
  have HRB := Lib.hid HRB0
  clear HRB0
  go_wp2_with fail
  refine HRB.out.mono ?_
  rintro e wa ⟨k0, k1, l1, l2, l3, l4, l5, l6, k3, rfl, hTa, hba⟩
  have HBAa := Lib.hid (below_alloc1 wa (.cells #[.string k0, .string k1, .slice l1 l2 l3, .slice l4 l5 l6, .string k3] 35))
  have HBza := Lib.hid (hba.trans (HBAa.out.mono hba.size))
  have HBA9 := Lib.hid (HBZ.out.trans (HBza.out.mono HBZ.out.size))
  have HTXa := Lib.hid (HTXZ.out.below HBza.out)
  have HTBa := Lib.hid (hTa.below HBAa.out)
  have HNa := Lib.hid (HNZ.out.below HBza.out HNZ.out.lt)
  have HMa := Lib.hid (Blk.new wa 35 #[.string k0, .string k1, .slice l1 l2 l3, .slice l4 l5 l6, .string k3])
  have x0 := (HNa.out.cell 0).trans rfl
  have x1 := (HNa.out.cell 1).trans rfl
  have x2 := (HNa.out.cell 2).trans rfl
  have x3 := (HNa.out.cell 3).trans rfl
  have x4 := (HNa.out.cell 4).trans rfl
  have z0 := (HMa.out.cell 0).trans rfl
  have z1 := (HMa.out.cell 1).trans rfl
  have z2 := (HMa.out.cell 2).trans rfl
  have z3 := (HMa.out.cell 3).trans rfl
  have z4 := (HMa.out.cell 4).trans rfl
  clear y0 y1 y2 y3 hTa hba
  have hnil : errV E (noN (some X)) = .nilIface := rfl
  rw [hnil]
  clear hnil
  go_wp2_with fail
  refine (same_any _ X X _ _ _ _ _ (Nat.le_refl _) HCAP.out.2 HCAP.out.2 HTBa.out HTXa.out).mono ?_
  rintro e wb ⟨rfl, hbb⟩
  rw [Tr.eqb_refl]
  have HBB := Lib.hid (HBA9.out.trans (hbb.mono HBA9.out.size))
  clear x0 x1 x2 x3 x4 z0 z1 z2 z3 z4 hbb
  go_wp2_with fail
  go_ret
  exact ⟨rfl, HBB.out⟩
end Go.Proofs.YtkghpmpmcafhkaaGreatDoor
