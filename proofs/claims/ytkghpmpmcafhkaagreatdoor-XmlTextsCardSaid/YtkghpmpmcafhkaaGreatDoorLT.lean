/-
  LawXT: XmlTexts: the walk.
-/
import Derived.Test.YtkghpmpmcafhkaaGreatDoorLA
import Derived.Test.YtkghpmpmcafhkaaGreatDoorTD
import Derived.Test.YtkghpmpmcafhkaaGreatDoorTO
import Derived.Test.YtkghpmpmcafhkaaGreatDoorRD
namespace Go.Proofs.YtkghpmpmcafhkaaGreatDoor
open Go.RowKit Go.Extern.Stop Go.Stop Go.Extern
attribute [local go_sem] bs_toList
attribute [local irreducible] wpPhi

theorem TrX.only1 {g : Nat} {w w' : World} {P : Nat → Prop} {x : Tr} {cs : List Value} (h : TrX w P x cs) (k : Only g w w') (hP : ∀ b, P b → b ≠ g) : TrX w' P x cs :=
  TrX.keepP (fun a v hp hc => (World.cell?_of_block (k.block a.block (hP _ hp))).trans hc) x cs h
theorem xtrc_four {w : World} {P : Nat → Prop} {x : Tr} {cs : List Value} (h : TrC w P x cs) (hn : x.ok 1) : ∃ s0 p1 n1 c1 p2 n2 c2 s3, cs = [.string s0, .slice p1 n1 c1, .slice p2 n2 c2, .string s3] := by
  obtain ⟨nm, ats, ks, t⟩ := x
  unfold Tr.ok at hn
  obtain ⟨a, rfl⟩ := one_of hn.1
  unfold TrC at h
  obtain ⟨pa, ca, pk, ck, css, rfl, _⟩ := h
  exact ⟨_, _, _, _, _, _, _, _, rfl⟩
/-- is a tree right? -/
theorem xright_any (E : Nat → Addr) (x : Tr) (P : Nat → Prop) (cx : List Value) (w : World) (hg : LibG w) (hE : Errs w E) (hok : x.ok 1) (hsh : x.shr) (hT : TrC w P x cx) :
    Calls Tryz.prog 35 #[.agg cx.toArray] w fun e w' => e = .returned (.bool (textE x == 0)) ∧ Below w.heap.size w w' := by
  obtain ⟨s0, p1, n1, c1, p2, n2, c2, s3, rfl⟩ := xtrc_four hT hok
  show Calls Tryz.prog 35 #[.agg #[.string s0, .slice p1 n1 c1, .slice p2 n2 c2, .string s3]] w _
  have hbX := below_alloc1 w (.cells #[.string s0, .slice p1 n1 c1, .slice p2 n2 c2, .string s3] 28)
  have HTX := Lib.hid (text_any E x P _ _ (hg.below hbX) (hE.below hbX) hok hsh (hT.below hbX))
  have hn := Blk.new w 28 #[.string s0, .slice p1 n1 c1, .slice p2 n2 c2, .string s3]
  have z0 := (hn.cell 0).trans rfl
  have z1 := (hn.cell 1).trans rfl
  have z2 := (hn.cell 2).trans rfl
  have z3 := (hn.cell 3).trans rfl
  have HBX := Lib.hid hbX
  generalize hk : textE x = k at *
  clear hg hE hok hsh hT hn hbX hk
  cases k with
  | zero =>
    rw [show errV E 0 = Value.nilIface from rfl] at HTX
    go_enter Tryz.func35, Tryz.ntmps35
    go_wp2_with (go_at_call 30; refine HTX.out.mono ?_; rintro e w2 ⟨rfl, hb2⟩; have HB2 := Lib.hid (HBX.out.trans (hb2.mono HBX.out.size)); clear hb2)
    go_ret
    exact ⟨rfl, HB2.out⟩
  | succ k =>
    rw [show errV E (k + 1) = .iface 244 (.pointer (some (E k))) from rfl] at HTX
    go_enter Tryz.func35, Tryz.ntmps35
    go_wp2_with (go_at_call 30; refine HTX.out.mono ?_; rintro e w2 ⟨rfl, hb2⟩; have HB2 := Lib.hid (HBX.out.trans (hb2.mono HBX.out.size)); clear hb2)
    go_ret
    exact ⟨rfl, HB2.out⟩
/-- the tree of a row -/
def builtD (ps : List Pd) : Tr := if ps.length = 0 then zeroX else treeD ps ps.length 0
theorem PdL.two {w : World} {v : Value} {ps : List Pd} (h : PdL w v ps) : ∀ o ∈ ps, ∀ a ∈ o.ats, a.length = 1 + 1 := by
  obtain ⟨p, cap, _, _, _, h4⟩ := h
  intro o ho
  obtain ⟨i, hi, rfl⟩ := List.getElem_of_mem ho
  obtain ⟨_, _, _, _, _, _, _, _, _, _, hk⟩ := h4 i _ (List.getElem?_eq_getElem hi)
  exact hk
theorem built_cap {ps : List Pd} (hb : bigD ps = false) (ha : ∀ o ∈ ps, ∀ a ∈ o.ats, a.length = 1 + 1) : (builtD ps).ok 1 ∧ (builtD ps).shr ∧ (builtD ps).sm ∧ (builtD ps).wrt.length ≤ 100000000 := by
  unfold builtD
  split
  · refine ⟨zx_ok, ⟨by simp [shS], by simp, by simp [shS], by unfold Tr.shrL; trivial⟩, ⟨by simp, by simp, by unfold Tr.smL; trivial⟩, ?_⟩
    have : zeroX.wrt = [] := by
      unfold zeroX Tr.wrt
      rw [if_pos (by rfl)]
      rfl
    rw [this]
    simp
  · rename_i h0
    have hc := treed_cap hb ha ps.length 0
    have hs := treed_sz hb (by omega)
    have hw := cap_wrt _ hc.1
    have hw2 := Nat.mul_le_mul_right ((30 + 2) * (7 * 500 + 8)) hs
    exact ⟨hc.2, cap_shr (by omega) _ hc.1, cap_sm (by omega) _ hc.1 (by omega), by omega⟩
set_option maxRecDepth 20000 in
set_option maxHeartbeats 4000000 in
theorem built_any (rv : Value) (ps : List Pd) (w : World) (h : PdL w rv ps) (hlen : ps.length ≤ 1000) (hok : (builtD ps).ok 1) :
    Calls Tryz.prog 32 #[rv] w fun e w' => ∃ s0 p1 n1 c1 p2 n2 c2 s3, e = .returned (.agg #[.string s0, .slice p1 n1 c1, .slice p2 n2 c2, .string s3]) ∧ TrC w' (fun _ => True) (builtD ps) [.string s0, .slice p1 n1 c1, .slice p2 n2 c2, .string s3] ∧ Below w.heap.size w w' := by
  have hh := h
  obtain ⟨p, cap, rfl, h1, h2, h3⟩ := h
  have HBX := Lib.hid (below_alloc1 w (.cells #[.string ⟨#[]⟩, .slice none 0 0, .slice none 0 0, .string ⟨#[]⟩] 28))
  have HNX := Lib.hid (Blk.new w 28 #[.string ⟨#[]⟩, .slice none 0 0, .slice none 0 0, .string ⟨#[]⟩])
  by_cases h0 : ps.length = 0
  · have hbt : builtD ps = zeroX := by unfold builtD; rw [if_pos h0]
    rw [hbt]
    have h0' : (ps.length : Int) = 0 := by omega
    have z0 := (HNX.out.cell 0).trans rfl
    have z1 := (HNX.out.cell 1).trans rfl
    have z2 := (HNX.out.cell 2).trans rfl
    have z3 := (HNX.out.cell 3).trans rfl
    rw [h0]
    clear hh h1 h2 h3 hok hbt h0 h0'
    go_enter Tryz.func32, Tryz.ntmps32
    go_wp2_with fail
    refine bodyPost_ret (v := .agg #[.string ⟨#[]⟩, .slice none 0 0, .slice none 0 0, .string ⟨#[]⟩]) (by simp [results, Tryz.results32, go_sem, z0, z1, z2, z3]) rfl ?_
    exact ⟨_, _, _, _, _, _, _, _, rfl, zeroX_bt _ _, HBX.out⟩
  · have hbt : builtD ps = treeD ps ps.length 0 := by unfold builtD; rw [if_neg h0]
    rw [hbt] at hok ⊢
    have HAT := Lib.hid (at23_any ps _ w hh hlen ps.length 0 _ HBX.out (by omega) (by omega))
    have hsz : (w.alloc (.cells #[.string ⟨#[]⟩, .slice none 0 0, .slice none 0 0, .string ⟨#[]⟩] 28)).heap.size = w.heap.size + 1 := by simp
    have HSZ := Lib.hid hsz
    clear hsz
    have h0' : ¬ (ps.length : Int) = 0 := by omega
    have HOK := Lib.hid hok
    clear hh h1 h2 h3 hok hbt h0
    go_enter Tryz.func32, Tryz.ntmps32
    go_wp2_with (first | (go_at_call 74; refine HAT.out.mono ?_; rintro e w3 ⟨cs, rfl, hT3, hb3⟩; have hT4 := TrX.plain _ _ hT3; obtain ⟨s0, p1, n1, c1, p2, n2, c2, s3, rfl⟩ := xtrc_four hT4 HOK.out; have hbn := HNX.out.below hb3 HNX.out.lt) | (refine wpList_store (.tmp 2) (.tmp 8) 28 rfl rfl w.heap.size 0 _ _ #[.string s0, .slice p1 n1 c1, .slice p2 n2 c2, .string s3] rfl rfl hbn ?s0 ?s1 ?s2 ?_))
    case s0 => kernel_rfl
    case s1 => simp [Value.oneCell']
    case s2 => simp
    intro w8 hb8 ho8
    rw [putCells_all #[.string ⟨#[]⟩, .slice none 0 0, .slice none 0 0, .string ⟨#[]⟩] #[.string s0, .slice p1 n1 c1, .slice p2 n2 c2, .string s3] rfl] at hb8
    have z0 := (hb8.cell 0).trans rfl
    have z1 := (hb8.cell 1).trans rfl
    have z2 := (hb8.cell 2).trans rfl
    have z3 := (hb8.cell 3).trans rfl
    have HT8 := Lib.hid (TrX.plain _ _ (TrX.only1 hT3 ho8 fun b hb => by
      rcases hb with hb | hb
      · omega
      · have := hb.1; have := HSZ.out; omega))
    have HB8 := Lib.hid ((HBX.out.trans (hb3.mono HBX.out.size)).trans (ho8.below (Nat.le_refl _)))
    clear hb8 ho8 hT3 hT4 hbn hb3
    go_wp2_with fail
    refine bodyPost_ret (v := .agg #[.string s0, .slice p1 n1 c1, .slice p2 n2 c2, .string s3]) (by simp [results, Tryz.results32, go_sem, z0, z1, z2, z3]) rfl ?_
    exact ⟨_, _, _, _, _, _, _, _, rfl, HT8.out, HB8.out⟩
set_option maxRecDepth 40000 in
set_option maxHeartbeats 8000000 in
theorem texts23_any (E : Nat → Addr) (rv : Value) (ps : List Pd) (w : World) (hg : LibG w) (hE : Errs w E) (h : PdL w rv ps) :
    Calls Tryz.prog 9 #[rv] w (fun e w' => e = .returned (.bool true) ∧ Below w.heap.size w w') := by
  have HAL := Lib.hid (alive23_any E w hg hE)
  have HBG := Lib.hid (fun w1 (hb : Below w.heap.size w w1) => bigd_any rv ps w1 (h.keep hb))
  cases hbig : bigD ps
  rotate_left 1
  · rw [hbig] at HBG
    clear hg hE h hbig
    go_enter Tryz.func9, Tryz.ntmps9
    go_wp2_with fail
    refine HAL.out.mono ?_
    rintro e w1 ⟨rfl, hb1⟩
    have HB1 := Lib.hid hb1
    clear hb1
    go_wp2_with fail
    refine (HBG.out w1 HB1.out).mono ?_
    rintro e w2 ⟨rfl, hb2⟩
    have HB2 := Lib.hid (HB1.out.trans (hb2.mono HB1.out.size))
    clear hb2
    go_wp2_with fail
    go_ret
    exact ⟨rfl, HB2.out⟩
  have hall := built_cap hbig h.two
  have hnl := (bigd_no hbig).1
  have HBU := Lib.hid (fun w1 (hb : Below w.heap.size w w1) => built_any rv ps w1 (h.keep hb) (by omega) hall.1)
  rw [hbig] at HBG
  generalize builtD ps = X at *
  obtain ⟨hok, hsh, hsm, hwl⟩ := hall
  have HTO := Lib.hid (fun P cx w1 (hT : TrC w1 P X cx) => told23_any X.sz X P cx w1 (Nat.le_refl _) hok hsm hT)
  have HRT := Lib.hid (fun P cx w1 (hT : TrC w1 P X cx) => rtext_any X P cx w1 hok hsh hwl hT)
  have HRI := Lib.hid (fun P cx w1 (hb : Below w.heap.size w w1) (hT : TrC w1 P X cx) => xright_any E X P cx w1 (hg.below hb) (hE.below hb) hok hsh hT)
  cases hk : textE X with
  | succ k =>
    have hts : textS X = [] := by unfold textS; rw [hk, if_neg (by omega)]
    have hk14 : k + 1 ≤ 14 := by
      unfold textE at hk
      split at hk
      · omega
      · split at hk <;> omega
    have HTX := Lib.hid (fun P cx w1 (hb : Below w.heap.size w w1) (hT : TrC w1 P X cx) => text_any E X P cx w1 (hg.below hb) (hE.below hb) hok hsh hT)
    have HNU := Lib.hid (fun w1 (hb : Below w.heap.size w w1) => num_any w1 E (k + 1) hk14 (hE.below hb))
    rw [hk, hts] at HRT HTX
    rw [hk] at HRI
    rw [show errV E (k + 1) = .iface 244 (.pointer (some (E k))) from rfl] at HTX HNU
    rw [show (k + 1 == 0) = false from rfl] at HRI
    rw [show bs [] = ⟨#[]⟩ from rfl] at HTX HRT
    have hkz : ¬ ((k : Int) + 1 = 0) := by omega
    clear hg hE h hbig hnl hok hsh hsm hwl hk hts hk14
    go_enter Tryz.func9, Tryz.ntmps9
    go_wp2_with fail
    refine HAL.out.mono ?_
    rintro e w1 ⟨rfl, hb1⟩
    have HB1 := Lib.hid hb1
    clear hb1 HAL
    go_wp2_with fail
    refine (HBG.out w1 HB1.out).mono ?_
    rintro e w2 ⟨rfl, hb2⟩
    have HB2 := Lib.hid (HB1.out.trans (hb2.mono HB1.out.size))
    clear hb2
    go_wp2_with (first | (go_at_call 32; refine (HBU.out w2 HB2.out).mono ?_; rintro e w3 ⟨s0, p1, n1, c1, p2, n2, c2, s3, rfl, hT3, hb3⟩; have HN3 := Lib.hid (Blk.new w3 28 #[.string ⟨#[]⟩, .slice none 0 0, .slice none 0 0, .string ⟨#[]⟩])) | (refine wpList_store (.tmp 3) (.tmp 14) 28 rfl rfl w3.heap.size 0 _ _ #[.string s0, .slice p1 n1 c1, .slice p2 n2 c2, .string s3] rfl rfl HN3.out ?s0 ?s1 ?s2 ?_))
    case s0 => kernel_rfl
    case s1 => simp [Value.oneCell']
    case s2 => simp
    intro w4 hb4 ho4
    rw [putCells_all #[.string ⟨#[]⟩, .slice none 0 0, .slice none 0 0, .string ⟨#[]⟩] #[.string s0, .slice p1 n1 c1, .slice p2 n2 c2, .string s3] rfl] at hb4
    have hbX := below_alloc1 w3 (.cells #[.string ⟨#[]⟩, .slice none 0 0, .slice none 0 0, .string ⟨#[]⟩] 28)
    have HB4 := Lib.hid (((HB2.out.trans (hb3.mono HB2.out.size)).trans (hbX.mono (Nat.le_trans HB2.out.size hb3.size))).trans (ho4.below (Nat.le_trans HB2.out.size hb3.size)))
    have HT4 := Lib.hid (TrC.only3 hT3 ho4)
    have HK4 := Lib.hid hb4
    have z0 := (hb4.cell 0).trans rfl
    have z1 := (hb4.cell 1).trans rfl
    have z2 := (hb4.cell 2).trans rfl
    have z3 := (hb4.cell 3).trans rfl
    generalize w3.heap.size = g3 at *
    clear hb4 ho4 hbX hT3 hb3 HN3 HBU HBG
    go_wp2_with (go_at_call 30; refine (HTX.out _ _ w4 HB4.out HT4.out).mono ?_; rintro e w5 ⟨rfl, hb5⟩; have HB5 := Lib.hid (HB4.out.trans (hb5.mono HB4.out.size)); have HT5 := Lib.hid (HT4.out.below hb5); have HK5 := Lib.hid (HK4.out.below hb5 HK4.out.lt); clear hb5 z0 z1 z2 z3; have z0 := (HK5.out.cell 0).trans rfl; have z1 := (HK5.out.cell 1).trans rfl; have z2 := (HK5.out.cell 2).trans rfl; have z3 := (HK5.out.cell 3).trans rfl)
    refine (HTO.out _ _ w5 HT5.out).mono ?_
    rintro e w6 ⟨cs, rfl, hT6, hb6⟩
    have HB6 := Lib.hid (HB5.out.trans (hb6.mono HB5.out.size))
    have HT6 := Lib.hid hT6
    have HU6 := Lib.hid (HT5.out.below hb6)
    have HK6 := Lib.hid (HK5.out.below hb6 HK5.out.lt)
    clear hb6 hT6 z0 z1 z2 z3
    go_wp2_with fail
    refine (HRT.out _ _ w6 HT6.out).mono ?_
    rintro e w7 ⟨rfl, hb7⟩
    have HB7 := Lib.hid (HB6.out.trans (hb7.mono HB6.out.size))
    have HU7 := Lib.hid (HU6.out.below hb7)
    have HK7 := Lib.hid (HK6.out.below hb7 HK6.out.lt)
    clear hb7
    go_wp2_with fail
    refine (HNU.out w7 HB7.out).mono ?_
    rintro e w8 ⟨rfl, hb8⟩
    have HB8 := Lib.hid (HB7.out.trans (hb8.mono HB7.out.size))
    have HU8 := Lib.hid (HU7.out.below hb8)
    have HK8 := Lib.hid (HK7.out.below hb8 HK7.out.lt)
    clear hb8
    have z0 := (HK8.out.cell 0).trans rfl
    have z1 := (HK8.out.cell 1).trans rfl
    have z2 := (HK8.out.cell 2).trans rfl
    have z3 := (HK8.out.cell 3).trans rfl
    go_wp2_with fail
    refine (HRI.out _ _ w8 HB8.out HU8.out).mono ?_
    rintro e w9 ⟨rfl, hb9⟩
    have HB9 := Lib.hid (HB8.out.trans (hb9.mono HB8.out.size))
    have HU9 := Lib.hid (HU8.out.below hb9)
    have HK9 := Lib.hid (HK8.out.below hb9 HK8.out.lt)
    clear hb9 z0 z1 z2 z3
    go_wp2_with fail
    go_ret
    exact ⟨rfl, HB9.out⟩
  | zero =>
    have hts : textS X = X.wrt := by unfold textS; rw [if_pos hk]
    have hw2 : X.wrt.length ≤ 20000 := by
      unfold textE at hk
      split at hk
      · omega
      · split at hk <;> omega
    have hpw := parse_wrt hok hk
    have HTX := Lib.hid (fun P cx w1 (hb : Below w.heap.size w w1) (hT : TrC w1 P X cx) => text_good E X P cx w1 (hg.below hb) (hE.below hb) hok hsh hT hk)
    have HNU := Lib.hid (fun w1 (hb : Below w.heap.size w w1) => num_any w1 E 0 (by omega) (hE.below hb))
    have HPW := Lib.hid (fun w1 (hb : Below w.heap.size w w1) => parse_good E X.wrt X w1 (hg.below hb) (hE.below hb) (by unfold maxLen; omega) hpw)
    have HSA := Lib.hid (fun P Q cx cy w1 (hT : TrC w1 P X cx) (hT2 : TrC w1 Q X cy) => same_any X.sz X X P Q cx cy w1 (Nat.le_refl _) hok hok hT hT2)
    rw [Tr.eqb_refl] at HSA
    rw [hk, hts] at HRT
    rw [hk] at HRI
    rw [show errV E 0 = Value.nilIface from rfl] at HNU
    rw [show (0 == 0) = true from rfl] at HRI
    generalize X.wrt = ww at *
    clear hg hE h hbig hnl hok hsh hsm hwl hk hts hw2 hpw
    go_enter Tryz.func9, Tryz.ntmps9
    go_wp2_with fail
    refine HAL.out.mono ?_
    rintro e w1 ⟨rfl, hb1⟩
    have HB1 := Lib.hid hb1
    clear hb1 HAL
    go_wp2_with fail
    refine (HBG.out w1 HB1.out).mono ?_
    rintro e w2 ⟨rfl, hb2⟩
    have HB2 := Lib.hid (HB1.out.trans (hb2.mono HB1.out.size))
    clear hb2
    go_wp2_with (first | (go_at_call 32; refine (HBU.out w2 HB2.out).mono ?_; rintro e w3 ⟨s0, p1, n1, c1, p2, n2, c2, s3, rfl, hT3, hb3⟩; have HN3 := Lib.hid (Blk.new w3 28 #[.string ⟨#[]⟩, .slice none 0 0, .slice none 0 0, .string ⟨#[]⟩])) | (refine wpList_store (.tmp 3) (.tmp 14) 28 rfl rfl w3.heap.size 0 _ _ #[.string s0, .slice p1 n1 c1, .slice p2 n2 c2, .string s3] rfl rfl HN3.out ?s0 ?s1 ?s2 ?_))
    case s0 => kernel_rfl
    case s1 => simp [Value.oneCell']
    case s2 => simp
    intro w4 hb4 ho4
    rw [putCells_all #[.string ⟨#[]⟩, .slice none 0 0, .slice none 0 0, .string ⟨#[]⟩] #[.string s0, .slice p1 n1 c1, .slice p2 n2 c2, .string s3] rfl] at hb4
    have hbX := below_alloc1 w3 (.cells #[.string ⟨#[]⟩, .slice none 0 0, .slice none 0 0, .string ⟨#[]⟩] 28)
    have HB4 := Lib.hid (((HB2.out.trans (hb3.mono HB2.out.size)).trans (hbX.mono (Nat.le_trans HB2.out.size hb3.size))).trans (ho4.below (Nat.le_trans HB2.out.size hb3.size)))
    have HT4 := Lib.hid (TrC.only3 hT3 ho4)
    have HK4 := Lib.hid hb4
    have z0 := (hb4.cell 0).trans rfl
    have z1 := (hb4.cell 1).trans rfl
    have z2 := (hb4.cell 2).trans rfl
    have z3 := (hb4.cell 3).trans rfl
    generalize w3.heap.size = g3 at *
    clear hb4 ho4 hbX hT3 hb3 HN3 HBU HBG
    go_wp2_with (go_at_call 30; refine (HTX.out _ _ w4 HB4.out HT4.out).mono ?_; rintro e w5 ⟨rfl, hb5⟩; have HB5 := Lib.hid (HB4.out.trans (hb5.mono HB4.out.size)); have HT5 := Lib.hid (HT4.out.below hb5); have HK5 := Lib.hid (HK4.out.below hb5 HK4.out.lt); clear hb5 z0 z1 z2 z3; have z0 := (HK5.out.cell 0).trans rfl; have z1 := (HK5.out.cell 1).trans rfl; have z2 := (HK5.out.cell 2).trans rfl; have z3 := (HK5.out.cell 3).trans rfl)
    refine (HTO.out _ _ w5 HT5.out).mono ?_
    rintro e w6 ⟨cs, rfl, hT6, hb6⟩
    have HB6 := Lib.hid (HB5.out.trans (hb6.mono HB5.out.size))
    have HT6 := Lib.hid hT6
    have HU6 := Lib.hid (HT5.out.below hb6)
    have HK6 := Lib.hid (HK5.out.below hb6 HK5.out.lt)
    clear hb6 hT6 z0 z1 z2 z3
    go_wp2_with fail
    refine (HRT.out _ _ w6 HT6.out).mono ?_
    rintro e w7 ⟨rfl, hb7⟩
    have HB7 := Lib.hid (HB6.out.trans (hb7.mono HB6.out.size))
    have HU7 := Lib.hid (HU6.out.below hb7)
    have HK7 := Lib.hid (HK6.out.below hb7 HK6.out.lt)
    clear hb7
    go_wp2_with fail
    refine (HNU.out w7 HB7.out).mono ?_
    rintro e w8 ⟨rfl, hb8⟩
    have HB8 := Lib.hid (HB7.out.trans (hb8.mono HB7.out.size))
    have HU8 := Lib.hid (HU7.out.below hb8)
    have HK8 := Lib.hid (HK7.out.below hb8 HK7.out.lt)
    clear hb8
    have z0 := (HK8.out.cell 0).trans rfl
    have z1 := (HK8.out.cell 1).trans rfl
    have z2 := (HK8.out.cell 2).trans rfl
    have z3 := (HK8.out.cell 3).trans rfl
    go_wp2_with fail
    refine (HRI.out _ _ w8 HB8.out HU8.out).mono ?_
    rintro e w9 ⟨rfl, hb9⟩
    have HB9 := Lib.hid (HB8.out.trans (hb9.mono HB8.out.size))
    have HU9 := Lib.hid (HU8.out.below hb9)
    have HK9 := Lib.hid (HK8.out.below hb9 HK8.out.lt)
    clear hb9 z0 z1 z2 z3
    go_wp2_with (first | (go_at_call 28; refine (HPW.out w9 HB9.out).mono ?_; rintro e wA ⟨t0, q1, m1, d1, q2, m2, d2, t3, rfl, hTA, hbA⟩; have HNA := Lib.hid (Blk.new wA 28 #[.string ⟨#[]⟩, .slice none 0 0, .slice none 0 0, .string ⟨#[]⟩])) | (refine wpList_store (.tmp 8) (.tmp 47) 28 rfl rfl wA.heap.size 0 _ _ #[.string t0, .slice q1 m1 d1, .slice q2 m2 d2, .string t3] rfl rfl HNA.out ?u0 ?u1 ?u2 ?_))
    case u0 => kernel_rfl
    case u1 => simp [Value.oneCell']
    case u2 => simp
    intro wB hbB hoB
    rw [putCells_all #[.string ⟨#[]⟩, .slice none 0 0, .slice none 0 0, .string ⟨#[]⟩] #[.string t0, .slice q1 m1 d1, .slice q2 m2 d2, .string t3] rfl] at hbB
    have hbY := below_alloc1 wA (.cells #[.string ⟨#[]⟩, .slice none 0 0, .slice none 0 0, .string ⟨#[]⟩] 28)
    have HBB := Lib.hid (((HB9.out.trans (hbA.mono HB9.out.size)).trans (hbY.mono (Nat.le_trans HB9.out.size hbA.size))).trans (hoB.below (Nat.le_trans HB9.out.size hbA.size)))
    have HTB := Lib.hid (TrC.only3 hTA hoB)
    have HUB := Lib.hid (TrC.only3 (HU9.out.below hbA) hoB)
    have hkA := HK9.out.below hbA HK9.out.lt
    have HVB := Lib.hid (hoB.blk (hkA.below hbY hkA.lt) (by have := hkA.lt; omega))
    have HSB := Lib.hid (HSA.out _ _ _ _ wB HTB.out HUB.out)
    have y0 := (HVB.out.cell 0).trans rfl
    have y1 := (HVB.out.cell 1).trans rfl
    have y2 := (HVB.out.cell 2).trans rfl
    have y3 := (HVB.out.cell 3).trans rfl
    have z0 := (hbB.cell 0).trans rfl
    have z1 := (hbB.cell 1).trans rfl
    have z2 := (hbB.cell 2).trans rfl
    have z3 := (hbB.cell 3).trans rfl
    generalize wA.heap.size = gA at *
    clear hbB hoB hbY hTA hbA HNA hkA HPW
    go_wp2_with (go_at_call 29; refine HSB.out.mono ?_; rintro e wC ⟨rfl, hbC⟩; have HBC := Lib.hid (HBB.out.trans (hbC.mono HBB.out.size)); clear hbC)
    go_ret
    exact ⟨rfl, HBC.out⟩
end Go.Proofs.YtkghpmpmcafhkaaGreatDoor
