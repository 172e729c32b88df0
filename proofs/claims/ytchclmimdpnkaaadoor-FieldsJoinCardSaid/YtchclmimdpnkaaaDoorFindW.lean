/-
  FindW: the walks of fields.Find and liaisonref03.Find.
-/
import Derived.Test.YtchclmimdpnkaaaDoorBig
import Derived.Test.YtchclmimdpnkaaaDoorClone
namespace Go.Proofs.YtchclmimdpnkaaaDoor
open Go.RowKit

def findF (tag : Int) (fs : List (Int × List UInt8)) : Option (Int × List UInt8) := fs.find? fun f => f.1 == tag
theorem find_hit (tag : Int) (fs : List (Int × List UInt8)) (k : Nat) (hk : k < fs.length) (h : findF tag (fs.take k) = none) (h1 : (fs[k].1 == tag) = true) : findF tag fs = some fs[k] := by
  have e : fs = fs.take k ++ fs[k] :: fs.drop (k + 1) := by rw [List.getElem_cons_drop]; exact (List.take_append_drop _ _).symm
  have : findF tag (fs.take k ++ fs[k] :: fs.drop (k + 1)) = some fs[k] := by
    unfold findF at *
    rw [List.find?_append, h, List.find?_cons, h1]; rfl
  rwa [← e] at this
theorem find_step (tag : Int) (fs : List (Int × List UInt8)) (k : Nat) (hk : k < fs.length) (h : findF tag (fs.take k) = none) (h1 : (fs[k].1 == tag) = false) : findF tag (fs.take (k + 1)) = none := by
  unfold findF at *
  rw [List.take_succ_eq_append_getElem hk, List.find?_append, h]
  simp [List.find?_cons, h1]
theorem find1_any (w : World) (c : Nat) (x tag : Int) (u : Value) (hu : ∃ q n cp, u = .slice q n cp) (hc : w.cell? ⟨c, 0, none⟩ = some (.int .i64 tag)) :
    Calls Tryd.prog 45 #[.agg #[.int .i64 x, u], .pointer (some ⟨c, 0, none⟩)] w fun e w' => e = .returned (.bool (x == tag)) ∧ Below w.heap.size w w' := by
  obtain ⟨q, n, cp, rfl⟩ := hu
  have hc' := fun o => keep_alloc w o _ _ hc
  have hb := below_alloc1 w (.cells #[.int .i64 x, .slice q n cp] 60)
  clear hc
  go_enter Tryd.func45, Tryd.ntmps45
  go_wp2_with fail
  go_ret
  exact ⟨rfl, hb⟩
def FindI (w : World) (tag : Int) (fs : List (Int × List UInt8)) (e : Ending) (w' : World) : Prop :=
  ((e = .returned (.int .i64 (-1)) ∧ findF tag fs = none) ∨ ∃ (k : Nat) (hk : k < fs.length), e = .returned (.int .i64 (k : Int)) ∧ findF tag fs = some fs[k]) ∧ Below w.heap.size w w'
set_option maxRecDepth 20000 in
set_option maxHeartbeats 1000000 in
theorem indexF_any (w : World) (v : Value) (fs : List (Int × List UInt8)) (tag : Int) (c : Nat) (hv : FldL w v fs) (hc : w.cell? ⟨c, 0, none⟩ = some (.int .i64 tag)) :
    Calls Tryd.prog 44 #[v, .func (.func 45) #[] #[.pointer (some ⟨c, 0, none⟩)]] w (FindI w tag fs) := by
  obtain ⟨p, cap, us, rfl, h1, h2, h3, h4, h5⟩ := hv
  obtain ⟨i0, hi, hz0, hz1, hz2⟩ := info_parts fldInfo
  have H4 := Lib.hid h4
  have H5 := Lib.hid h5
  have HC := Lib.hid hc
  unfold maxLen at h2
  clear h4 h5 h3 hc
  go_enter Tryd.func44, Tryd.ntmps44
  go_wp2_with fail
  go_loopw [8] (fun i wr => ∃ k : Nat, k ≤ fs.length ∧ i = .int .i64 k ∧ findF tag (fs.take k) = none ∧ Below w.heap.size w wr) (fun i _ => fs.length - (intOf i).toNat)
  case atStart => exact ⟨0, by omega, rfl, rfl, Below.refl _ _⟩
  case round =>
    obtain ⟨k, hk, rfl, hno, hbw⟩ := hrel
    have HNO := Lib.hid hno
    clear hno
    by_cases hlt : k < fs.length
    · obtain ⟨b, off, q, c', rfl, hc1, hc2, hby⟩ := fldL_cell H4.out H5.out hlt
      have g1 := Below.keeps hbw _ _ hc1
      have g2 := Below.keeps hbw _ _ hc2
      have HHIT := Lib.hid (find_hit tag fs k hlt HNO.out)
      have HST := Lib.hid (find_step tag fs k hlt HNO.out)
      have HK := Lib.hid hlt
      clear hc1 hc2 hby
      generalize hf : fs[k] = f at *
      have HF := Lib.hid hf
      clear hf
      obtain ⟨x, dat⟩ := f
      simp only at g1 g2 HHIT HST
      go_wp2_with fail
      refine (find1_any wr c x tag _ ⟨_, _, _, rfl⟩ (Below.keeps hbw _ _ HC.out)).mono ?_
      rintro e w2 ⟨rfl, hb2'⟩
      have hb2 := hbw.trans (hb2'.mono hbw.size)
      clear hb2' g1 g2
      cases hx : (x == tag) with
      | true =>
        have HH := Lib.hid (HHIT.out hx)
        clear HHIT HST
        go_wp2_with fail
        go_ret
        exact ⟨.inr ⟨k, HK.out, rfl, by rw [HH.out]; exact congrArg some HF.out.symm⟩, hb2⟩
      | false =>
        have HH := Lib.hid (HST.out hx)
        clear HHIT HST
        go_wp2_with fail
        go_roundw
        case rel => exact ⟨k + 1, by omega, by go_num, HH.out, hb2⟩
        case measure => simp [intOf]; omega
    · obtain rfl : k = fs.length := by omega
      have HR := Lib.hid (show findF tag fs = none by
        have := HNO.out
        rwa [List.take_length] at this)
      go_wp2_with fail
      go_ret
      exact ⟨.inl ⟨rfl, HR.out⟩, hbw⟩
/-- what Find answers -/
def FindR (w : World) (tag : Int) (fs : List (Int × List UInt8)) (e : Ending) (w' : World) : Prop :=
  ∃ p c, e = .returned (.tuple #[.slice p (((findF tag fs).map (·.2)).getD []).length c, .bool (findF tag fs).isSome]) ∧ Byt w' (.slice p (((findF tag fs).map (·.2)).getD []).length c) (((findF tag fs).map (·.2)).getD []) ∧ Below w.heap.size w w'
theorem byt_none (w : World) : Byt w (.slice none 0 0) [] := ⟨none, 0, rfl, Nat.le_refl _, by unfold maxLen; omega, .inl rfl⟩
set_option maxRecDepth 20000 in
set_option maxHeartbeats 1000000 in
theorem find_any (w : World) (v : Value) (fs : List (Int × List UInt8)) (tag : Int) (hv : FldL w v fs) (hb : bigR fs = false) :
    Calls Tryd.prog 30 #[v, .int .i64 tag] w (FindR w tag fs) := by
  have HV := Lib.hid hv
  have hmf := @run_makeFunc Tryd.prog
  have HB := Lib.hid hb
  obtain ⟨p, cap, us, rfl, h1, h2, h3, h4, h5⟩ := hv
  obtain ⟨i0, hi, hz0, hz1, hz2⟩ := info_parts fldInfo
  have H4 := Lib.hid h4
  have H5 := Lib.hid h5
  unfold maxLen at h2
  clear h4 h5 h3 hb
  have hb1 := below_alloc1 w (.cells #[.int .i64 tag] 3)
  have hc1 : (w.alloc (.cells #[.int .i64 tag] 3)).cell? ⟨w.heap.size, 0, none⟩ = some (.int .i64 tag) := cell_of_row _ _ 0 _ _ _ (heap_alloc_new w _)
  go_enter Tryd.func30, Tryd.ntmps30
  go_wp2_with fail
  refine (indexF_any _ _ fs tag _ (HV.out.keep (Below.keeps hb1)) hc1).mono ?_
  rintro e w2 ⟨h, hb2'⟩
  have hb2 := hb1.trans (hb2'.mono hb1.size)
  clear hb2' hb1 hc1
  rcases h with ⟨rfl, hno⟩ | ⟨k, hk, rfl, hso⟩
  · go_wp2_with fail
    go_ret2
    unfold FindR
    rw [hno]
    exact ⟨none, 0, rfl, byt_none _, hb2⟩
  · obtain ⟨b, off, q, c', rfl, hc1, hc2, hby⟩ := fldL_cell H4.out H5.out hk
    have g2 := Below.keeps hb2 _ _ hc2
    have HY := Lib.hid (hby.keep (Below.keeps hb2))
    have hl : fs[k].2.length ≤ 400 := by
      have := HB.out
      unfold bigR at this
      simp only [Bool.or_eq_false_iff, decide_eq_false_iff_not, List.any_eq_false] at this
      have := this.2 fs[k] (List.getElem_mem hk)
      simpa using this
    have HS := Lib.hid hso
    clear hc1 hc2 hby hso
    generalize fs[k] = f at *
    obtain ⟨x, dat⟩ := f
    simp only at g2 HY hl
    go_wp2_with fail
    refine (clone_any _ dat w2 (by omega) HY.out).mono ?_
    rintro e w3 hg
    obtain ⟨v3, rfl, hy3, hb3'⟩ := hg.byt
    have hb3 := hb2.trans (hb3'.mono hb2.size)
    obtain ⟨p3, c3, rfl, _⟩ := id hy3
    have HY3 := Lib.hid hy3
    clear hg hb3' hy3
    go_wp2_with fail
    go_ret2
    unfold FindR
    rw [HS.out]
    exact ⟨_, _, rfl, HY3.out, hb3⟩
set_option maxRecDepth 20000 in
set_option maxHeartbeats 1000000 in
theorem reffind_any (w : World) (v : Value) (fs : List (Int × List UInt8)) (tag : Int) (hv : FldL w v fs) :
    Calls Tryd.prog 31 #[v, .int .i64 tag] w (FindR w tag fs) := by
  obtain ⟨p, cap, us, rfl, h1, h2, h3, h4, h5⟩ := hv
  obtain ⟨i0, hi, hz0, hz1, hz2⟩ := info_parts fldInfo
  have H4 := Lib.hid h4
  have H5 := Lib.hid h5
  unfold maxLen at h2
  clear h4 h5 h3
  go_enter Tryd.func31, Tryd.ntmps31
  go_wp2_with fail
  go_loopw [10] (fun i wr => ∃ k : Nat, k ≤ fs.length ∧ i = .int .i64 k ∧ findF tag (fs.take k) = none ∧ Below w.heap.size w wr) (fun i _ => fs.length - (intOf i).toNat)
  case atStart => exact ⟨0, by omega, rfl, rfl, Below.refl _ _⟩
  case round =>
    obtain ⟨k, hk, rfl, hno, hbw⟩ := hrel
    have HNO := Lib.hid hno
    clear hno
    by_cases hlt : k < fs.length
    · obtain ⟨b, off, q, c', rfl, hc1, hc2, hby⟩ := fldL_cell H4.out H5.out hlt
      have g1 := Below.keeps hbw _ _ hc1
      have g2 := Below.keeps hbw _ _ hc2
      have HHIT := Lib.hid (find_hit tag fs k hlt HNO.out)
      have HST := Lib.hid (find_step tag fs k hlt HNO.out)
      have hbw2 : Below w.heap.size w (wr.alloc (.cells #[.int .i64 fs[k].1, .slice q fs[k].2.length c'] 60)) := below_alloc hbw _
      have HY := Lib.hid (hby.keep (Below.keeps hbw2))
      clear hc1 hc2 hby
      generalize fs[k] = f at *
      obtain ⟨x, dat⟩ := f
      simp only at g1 g2 HHIT HST hbw2 HY
      cases hx : (x == tag) with
      | true =>
        have HH := Lib.hid (HHIT.out hx)
        clear HHIT HST
        go_wp2_with fail
        go_ret2
        unfold FindR
        rw [HH.out]
        exact ⟨q, c', rfl, HY.out, hbw2⟩
      | false =>
        have HH := Lib.hid (HST.out hx)
        clear HHIT HST
        go_wp2_with fail
        go_roundw
        case rel => exact ⟨k + 1, by omega, by go_num, HH.out, hbw2⟩
        case measure => simp [intOf]; omega
    · obtain rfl : k = fs.length := by omega
      have HR := Lib.hid (show findF tag fs = none by
        have := HNO.out
        rwa [List.take_length] at this)
      go_wp2_with fail
      go_ret2
      unfold FindR
      rw [HR.out]
      exact ⟨none, 0, rfl, byt_none _, hbw⟩
end Go.Proofs.YtchclmimdpnkaaaDoor
