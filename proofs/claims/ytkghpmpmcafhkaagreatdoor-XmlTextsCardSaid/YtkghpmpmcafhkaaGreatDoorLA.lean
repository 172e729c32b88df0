/-
  LawXA: XmlAgain: the walk.
-/
import Derived.Test.YtkghpmpmcafhkaaGreatDoorQF
import Derived.Test.YtkghpmpmcafhkaaGreatDoorQG
import Derived.Test.YtkghpmpmcafhkaaGreatDoorPF
namespace Go.Proofs.YtkghpmpmcafhkaaGreatDoor
open Go.RowKit Go.Extern.Stop Go.Stop Go.Extern
attribute [local go_sem] bs_toList
attribute [local irreducible] wpPhi

theorem parse_good (E : Nat → Addr) (s : List UInt8) (y : Tr) (w : World) (hg : LibG w) (hE : Errs w E) (hs : s.length ≤ maxLen) (h : parseE s = .ok y) :
    Calls Tryz.prog 28 #[.string (bs s)] w fun e w' => ∃ s0 p1 n1 c1 p2 n2 c2 s3, e = .returned (.tuple #[.agg #[.string s0, .slice p1 n1 c1, .slice p2 n2 c2, .string s3], .nilIface]) ∧ TrC w' (fun _ => True) y [.string s0, .slice p1 n1 c1, .slice p2 n2 c2, .string s3] ∧ Below w.heap.size w w' := by
  have hp := parse_any E s w hg hE hs
  rw [h] at hp
  refine hp.mono ?_
  rintro e w' ⟨hb, s0, p1, n1, c1, p2, n2, c2, s3, he, hT⟩
  exact ⟨s0, p1, n1, c1, p2, n2, c2, s3, he, hT.imp fun _ _ => trivial, hb⟩
theorem parse_bad (E : Nat → Addr) (s : List UInt8) (k : Nat) (w : World) (hg : LibG w) (hE : Errs w E) (hs : s.length ≤ maxLen) (h : parseE s = .error k) :
    Calls Tryz.prog 28 #[.string (bs s)] w fun e w' => ∃ s0 p1 n1 c1 p2 n2 c2 s3, e = .returned (.tuple #[.agg #[.string s0, .slice p1 n1 c1, .slice p2 n2 c2, .string s3], .iface 244 (.pointer (some (E k)))]) ∧ TrC w' (fun _ => True) zeroX [.string s0, .slice p1 n1 c1, .slice p2 n2 c2, .string s3] ∧ Below w.heap.size w w' := by
  have hp := parse_any E s w hg hE hs
  rw [h] at hp
  refine hp.mono ?_
  rintro e w' ⟨hb, s0, p1, n1, c1, p2, n2, c2, s3, he, hT⟩
  exact ⟨s0, p1, n1, c1, p2, n2, c2, s3, he, hT.imp fun _ _ => trivial, hb⟩
theorem text_good (E : Nat → Addr) (x : Tr) (P : Nat → Prop) (cx : List Value) (w : World) (hg : LibG w) (hE : Errs w E) (hok : x.ok 1) (hsh : x.shr) (hT : TrC w P x cx) (h0 : textE x = 0) :
    Calls Tryz.prog 30 #[.agg cx.toArray] w fun e w' => e = .returned (.tuple #[.string (bs x.wrt), .nilIface]) ∧ Below w.heap.size w w' := by
  have h := text_any E x P cx w hg hE hok hsh hT
  rw [show textS x = x.wrt by unfold textS; rw [if_pos h0], h0] at h
  exact h
theorem zx_ok : zeroX.ok 1 := ⟨rfl, by simp, trivial⟩
/-- a tree of any memory stands as its struct is put into a new block -/
theorem TrC.only3 {w2 w3 : World} {x : Tr} {cs : List Value} {c : Obj} (h : TrC w2 (fun _ => True) x cs) (ho : Only w2.heap.size (w2.alloc c) w3) : TrC w3 (fun _ => True) x cs :=
  h.keepP (w' := w3) fun a u _ hc => (World.cell?_of_block (ho.block a.block (by have := cell_lt hc; omega))).trans (Below.keeps (below_alloc1 w2 c) _ _ hc)
set_option maxRecDepth 40000 in
set_option maxHeartbeats 8000000 in
theorem again_any (E : Nat → Addr) (s : List UInt8) (w : World) (hg : LibG w) (hE : Errs w E) (hs : s.length ≤ maxLen) :
    Calls Tryz.prog 8 #[.string (bs s)] w (fun e w' => e = .returned (.bool true) ∧ Below w.heap.size w w') := by
  have HAL := Lib.hid (alive23_any E w hg hE)
  have hz := bs_size s
  by_cases hbig : 2000 < s.length
  · have hb1 : (2000 : Int) < ((bs s).size : Int) := by rw [hz]; omega
    clear hg hE hz hbig hs
    go_enter Tryz.func8, Tryz.ntmps8
    go_wp2_with fail
    refine HAL.out.mono ?_
    rintro e w1 ⟨rfl, hb1⟩
    have HB1 := Lib.hid hb1
    clear hb1
    go_wp2_with fail
    go_ret
    exact ⟨rfl, HB1.out⟩
  have hb1 : ¬ (2000 : Int) < ((bs s).size : Int) := by rw [hz]; omega
  cases hp : parseE s with
  | error k =>
    have HPB := Lib.hid (fun w1 (hb : Below w.heap.size w w1) => parse_bad E s k w1 (hg.below hb) (hE.below hb) hs hp)
    clear hg hE hz hbig hs hp
    go_enter Tryz.func8, Tryz.ntmps8
    go_wp2_with fail
    refine HAL.out.mono ?_
    rintro e w1 ⟨rfl, hb1⟩
    have HB1 := Lib.hid hb1
    clear hb1
    go_wp2_with (first | (go_at_call 28; refine (HPB.out w1 HB1.out).mono ?_; rintro e w2 ⟨s0, p1, n1, c1, p2, n2, c2, s3, rfl, hT2, hb2⟩; have HN2 := Lib.hid (Blk.new w2 28 #[.string ⟨#[]⟩, .slice none 0 0, .slice none 0 0, .string ⟨#[]⟩])) | (refine wpList_store (.tmp 3) (.tmp 16) 28 rfl rfl w2.heap.size 0 _ _ #[.string s0, .slice p1 n1 c1, .slice p2 n2 c2, .string s3] rfl rfl HN2.out ?s0 ?s1 ?s2 ?_))
    case s0 => kernel_rfl
    case s1 => simp [Value.oneCell']
    case s2 => simp
    intro w3 hb3 ho3
    rw [putCells_all #[.string ⟨#[]⟩, .slice none 0 0, .slice none 0 0, .string ⟨#[]⟩] #[.string s0, .slice p1 n1 c1, .slice p2 n2 c2, .string s3] rfl] at hb3
    have hbX := below_alloc1 w2 (.cells #[.string ⟨#[]⟩, .slice none 0 0, .slice none 0 0, .string ⟨#[]⟩] 28)
    have HB3 := Lib.hid (((HB1.out.trans (hb2.mono HB1.out.size)).trans (hbX.mono (Nat.le_trans HB1.out.size hb2.size))).trans (ho3.below (Nat.le_trans HB1.out.size hb2.size)))
    have hT3 := TrC.only3 hT2 ho3
    have HSA := Lib.hid (same_any zeroX.sz zeroX zeroX _ (fun _ => True) _ [.string ⟨#[]⟩, .slice none 0 0, .slice none 0 0, .string ⟨#[]⟩] w3 (Nat.le_refl _) zx_ok zx_ok hT3 (zeroX_bt _ _))
    rw [Tr.eqb_refl] at HSA
    have z0 := (hb3.cell 0).trans rfl
    have z1 := (hb3.cell 1).trans rfl
    have z2 := (hb3.cell 2).trans rfl
    have z3 := (hb3.cell 3).trans rfl
    generalize w2.heap.size = g2 at *
    clear hb3 ho3 hbX hT2 hT3 hb2 HN2
    go_wp2_with (go_at_call 29; refine HSA.out.mono ?_; rintro e w4 ⟨rfl, hb4⟩; have HB4 := Lib.hid (HB3.out.trans (hb4.mono HB3.out.size)); clear hb4)
    go_ret
    exact ⟨rfl, HB4.out⟩
  | ok y =>
    obtain ⟨hok, ht0, hpw⟩ := parse_again hp (by omega)
    have hsh := parse_shr hp (by omega)
    have hrt := parse_right hp
    have hwl : y.wrt.length ≤ 12000 := by omega
    have hts : textS y = y.wrt := by unfold textS; rw [if_pos ht0]
    have HPG := Lib.hid (fun w1 (hb : Below w.heap.size w w1) => parse_good E s y w1 (hg.below hb) (hE.below hb) hs hp)
    have HPW := Lib.hid (fun w1 (hb : Below w.heap.size w w1) => parse_good E y.wrt y w1 (hg.below hb) (hE.below hb) (by unfold maxLen; omega) hpw)
    have HTX := Lib.hid (fun P cx w1 (hb : Below w.heap.size w w1) (hT : TrC w1 P y cx) => text_good E y P cx w1 (hg.below hb) (hE.below hb) hok hsh hT ht0)
    have HSA := Lib.hid (fun P Q cx cy w1 (hT : TrC w1 P y cx) (hT2 : TrC w1 Q y cy) => same_any y.sz y y P Q cx cy w1 (Nat.le_refl _) hok hok hT hT2)
    rw [Tr.eqb_refl] at HSA
    clear hg hE hz hbig hs hp hok ht0 hpw hsh hrt hwl hts
    go_enter Tryz.func8, Tryz.ntmps8
    go_wp2_with fail
    refine HAL.out.mono ?_
    rintro e w1 ⟨rfl, hb1⟩
    have HB1 := Lib.hid hb1
    clear hb1
    go_wp2_with (first | (go_at_call 28; refine (HPG.out w1 HB1.out).mono ?_; rintro e w2 ⟨s0, p1, n1, c1, p2, n2, c2, s3, rfl, hT2, hb2⟩; have HN2 := Lib.hid (Blk.new w2 28 #[.string ⟨#[]⟩, .slice none 0 0, .slice none 0 0, .string ⟨#[]⟩])) | (refine wpList_store (.tmp 3) (.tmp 16) 28 rfl rfl w2.heap.size 0 _ _ #[.string s0, .slice p1 n1 c1, .slice p2 n2 c2, .string s3] rfl rfl HN2.out ?s0 ?s1 ?s2 ?_))
    case s0 => kernel_rfl
    case s1 => simp [Value.oneCell']
    case s2 => simp
    intro w3 hb3 ho3
    rw [putCells_all #[.string ⟨#[]⟩, .slice none 0 0, .slice none 0 0, .string ⟨#[]⟩] #[.string s0, .slice p1 n1 c1, .slice p2 n2 c2, .string s3] rfl] at hb3
    have hbX := below_alloc1 w2 (.cells #[.string ⟨#[]⟩, .slice none 0 0, .slice none 0 0, .string ⟨#[]⟩] 28)
    have HB3 := Lib.hid (((HB1.out.trans (hb2.mono HB1.out.size)).trans (hbX.mono (Nat.le_trans HB1.out.size hb2.size))).trans (ho3.below (Nat.le_trans HB1.out.size hb2.size)))
    have HT3 := Lib.hid (TrC.only3 hT2 ho3)
    have HK3 := Lib.hid hb3
    have z0 := (hb3.cell 0).trans rfl
    have z1 := (hb3.cell 1).trans rfl
    have z2 := (hb3.cell 2).trans rfl
    have z3 := (hb3.cell 3).trans rfl
    generalize w2.heap.size = g2 at *
    clear hb3 ho3 hbX hT2 hb2 HN2
    go_wp2_with (first | (go_at_call 30; refine (HTX.out _ _ w3 HB3.out HT3.out).mono ?_; rintro e w4 ⟨rfl, hb4⟩; have HB4 := Lib.hid (HB3.out.trans (hb4.mono HB3.out.size)); have HT4 := Lib.hid (HT3.out.below hb4); have HK4 := Lib.hid (HK3.out.below hb4 HK3.out.lt); clear hb4 z0 z1 z2 z3) | (go_at_call 28; refine (HPW.out w4 HB4.out).mono ?_; rintro e w5 ⟨t0, q1, m1, d1, q2, m2, d2, t3, rfl, hT5, hb5⟩; have HN5 := Lib.hid (Blk.new w5 28 #[.string ⟨#[]⟩, .slice none 0 0, .slice none 0 0, .string ⟨#[]⟩])) | (refine wpList_store (.tmp 6) (.tmp 33) 28 rfl rfl w5.heap.size 0 _ _ #[.string t0, .slice q1 m1 d1, .slice q2 m2 d2, .string t3] rfl rfl HN5.out ?u0 ?u1 ?u2 ?_))
    case u0 => kernel_rfl
    case u1 => simp [Value.oneCell']
    case u2 => simp
    intro w6 hb6 ho6
    rw [putCells_all #[.string ⟨#[]⟩, .slice none 0 0, .slice none 0 0, .string ⟨#[]⟩] #[.string t0, .slice q1 m1 d1, .slice q2 m2 d2, .string t3] rfl] at hb6
    have hbY := below_alloc1 w5 (.cells #[.string ⟨#[]⟩, .slice none 0 0, .slice none 0 0, .string ⟨#[]⟩] 28)
    have HB6 := Lib.hid (((HB4.out.trans (hb5.mono HB4.out.size)).trans (hbY.mono (Nat.le_trans HB4.out.size hb5.size))).trans (ho6.below (Nat.le_trans HB4.out.size hb5.size)))
    have HT6 := Lib.hid (TrC.only3 hT5 ho6)
    have HK6 := Lib.hid hb6
    have HU6 := Lib.hid (TrC.only3 (HT4.out.below hb5) ho6)
    have hl4 := HK4.out.lt
    have hk5 := HK4.out.below hb5 hl4
    have HV6 := Lib.hid (ho6.blk (hk5.below hbY hk5.lt) (by have := hk5.lt; omega))
    have HS6 := Lib.hid (HSA.out _ _ _ _ w6 HU6.out HT6.out)
    have y0 := (HV6.out.cell 0).trans rfl
    have y1 := (HV6.out.cell 1).trans rfl
    have y2 := (HV6.out.cell 2).trans rfl
    have y3 := (HV6.out.cell 3).trans rfl
    have z0 := (hb6.cell 0).trans rfl
    have z1 := (hb6.cell 1).trans rfl
    have z2 := (hb6.cell 2).trans rfl
    have z3 := (hb6.cell 3).trans rfl
    generalize w5.heap.size = g5 at *
    clear hb6 ho6 hbY hT5 hb5 HN5 hl4 hk5 HPG HPW HAL
    go_wp2_with (first | (go_at_call 29; refine HS6.out.mono ?_; rintro e w7 ⟨rfl, hb7⟩; have HB7 := Lib.hid (HB6.out.trans (hb7.mono HB6.out.size)); have HT7 := Lib.hid (HT6.out.below hb7); have hk7 := HK6.out.below hb7 HK6.out.lt; clear z0 z1 z2 z3 y0 y1 y2 y3; have z0 := (hk7.cell 0).trans rfl; have z1 := (hk7.cell 1).trans rfl; have z2 := (hk7.cell 2).trans rfl; have z3 := (hk7.cell 3).trans rfl; clear hb7 hk7) | (go_at_call 30; refine (HTX.out _ _ w7 HB7.out HT7.out).mono ?_; rintro e w8 ⟨rfl, hb8⟩; have HB8 := Lib.hid (HB7.out.trans (hb8.mono HB7.out.size)); clear hb8))
    go_ret
    exact ⟨rfl, HB8.out⟩
theorem again_ba (E : Nat → Addr) (s : ByteArray) (w : World) (hg : LibG w) (hE : Errs w E) (hs : s.size ≤ maxLen) :
    Calls Tryz.prog 8 #[.string s] w (fun e w' => e = .returned (.bool true) ∧ Below w.heap.size w w') := by
  have e : s = bs s.data.toList := by
    unfold bs
    rw [show s.data.toList.toArray = s.data from Array.toArray_toList]
  rw [e]
  exact again_any E s.data.toList w hg hE hs
end Go.Proofs.YtkghpmpmcafhkaaGreatDoor
