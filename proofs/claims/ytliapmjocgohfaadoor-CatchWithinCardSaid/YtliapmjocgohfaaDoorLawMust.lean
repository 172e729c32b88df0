/-
  LawMust: the walk of CatchMust.
-/
import Derived.Test.YtliapmjocgohfaaDoorCatchA
import Derived.Laws.EntriesVeiled
namespace Go.Proofs.YtliapmjocgohfaaDoor
open Go.RowKit Go.Extern.Stop Go.Stop Go.Extern

def ok1 (w : World) (e : Ending) (w' : World) : Prop := e = .returned (.bool true) ∧ Below w.heap.size w w'
/-- an int as an unsigned number -/
def u64n (x : Int) : Nat := (x % 18446744073709551616).toNat
theorem u64_conv (x : Int) (w : World) : (convert 3 23 (.int .i64 x)).run Tryd.prog w = .ok (.int .u64 (u64n x : Int)) w := by
  have e : (convert 3 23 (.int .i64 x)).run Tryd.prog w = .ok (.int .u64 (IntKind.u64.wrap x)) w := by
    simp [convert, run_underlying Tryd.underlying3, run_underlying Tryd.underlying23, Conv.intToInt]
  rw [e]
  have : IntKind.u64.wrap x = (u64n x : Int) := by
    unfold u64n
    simp only [IntKind.wrap, IntKind.bits, IntKind.signed]
    simp
    omega
  rw [this]
/-- what is caught: x, or 0 and the error n -/
def Caught (E : Nat → Addr) (n : Nat) (x : Int) (w : World) (e : Ending) (w' : World) : Prop :=
  Below w.heap.size w w' ∧ e = .returned (.tuple #[.int .i64 (if n = 0 then x else 0), errV E n])
/-- a function value that acts as told, in every later world -/
def ActV (E : Nat → Addr) (n : Nat) (x : Int) (w : World) (v : Value) : Prop :=
  ∃ f caps, v = .func (.func f) #[] caps ∧ (∀ w, (callFunc f caps).run Tryd.prog w = .ok (.enter f caps) w) ∧ ∀ w', Below w.heap.size w w' → Calls Tryd.prog f caps w' (Acts E n x w')
theorem ActV.below {E : Nat → Addr} {n : Nat} {x : Int} {w w' : World} {v : Value} (h : ActV E n x w v) (hb : Below w.heap.size w w') : ActV E n x w' v := by
  obtain ⟨f, caps, h1, h2, h3⟩ := h
  exact ⟨f, caps, h1, h2, fun w'' hb' => h3 w'' (hb.trans (hb'.mono hb.size))⟩
theorem try_act (w : World) (E : Nat → Addr) (n : Nat) (hn : n ≤ 14) (x : Int) (v : Value) (he : Errs w E) (hv : ActV E n x w v) :
    Calls Tryd.prog 13 #[v] w (Caught E n x w) := by
  obtain ⟨f, caps, rfl, h2, h3⟩ := hv
  refine (tryI_any w E f caps (fun _ v _ => n = 0 ∧ v = .int .i64 x) (fun k => n = k + 1) he (fun _ v _ h => ⟨x, h.2⟩) h2 ?_).mono ?_
  · intro w1 hbw _
    refine (h3 w1 hbw).mono ?_
    rintro e w2 ⟨hb, ⟨h, rfl⟩ | ⟨k, hk, rfl⟩⟩
    · exact ⟨.inl ⟨_, rfl, h, rfl⟩, hb⟩
    · exact ⟨.inr ⟨_, k, by omega, hk, ⟨_, _, rfl⟩, told_own E k (by omega) _, rfl⟩, hb⟩
  · rintro e w2 ⟨hb, ⟨v, w1, w2', rfl, _, _, _, ⟨h, rfl⟩, _⟩ | ⟨k, hk, hS, rfl⟩⟩
    · exact ⟨hb, by rw [h]; rfl⟩
    · exact ⟨hb, by rw [if_neg (by omega), hS]; rfl⟩
theorem act1_any (w : World) (E : Nat → Addr) (n : Nat) (x : Int) (bx be : Nat) (hx : w.cell? ⟨bx, 0, none⟩ = some (.int .i64 x)) (hc : w.cell? ⟨be, 0, none⟩ = some (errV E n)) :
    Calls Tryd.prog 10 #[.pointer (some ⟨bx, 0, none⟩), .pointer (some ⟨be, 0, none⟩)] w (Acts E n x w) := by
  have HM := Lib.hid (must_any w E n x)
  generalize hve : errV E n = ve at *
  go_enter Tryd.func10, Tryd.ntmps10
  go_wp2_with fail
  refine HM.out.mono ?_
  rintro e w1 ⟨hb, ⟨h, rfl⟩ | ⟨k, hk, rfl⟩⟩
  · go_wp2_with fail
    go_ret
    exact ⟨hb, .inl ⟨h, rfl⟩⟩
  · have HK := Lib.hid hk
    clear hk
    go_wp2_with fail
    exact ⟨rfl, hb, .inr ⟨k, HK.out, rfl⟩⟩
theorem act2_any (w : World) (E : Nat → Addr) (n : Nat) (hn : n ≤ 14) (x : Int) (b : Nat) (v : Value) (he : Errs w E) (hv : ActV E n x w v) (hc : w.cell? ⟨b, 0, none⟩ = some v) :
    Calls Tryd.prog 12 #[.pointer (some ⟨b, 0, none⟩)] w (Acts E n x w) := by
  have HT := Lib.hid (try_act w E n hn x v he hv)
  obtain ⟨f, caps, rfl, _, _⟩ := hv
  clear he
  go_enter Tryd.func12, Tryd.ntmps12
  go_wp2_with fail
  refine HT.out.mono ?_
  rintro e w1 ⟨hb, rfl⟩
  cases n with
  | zero =>
    rw [errV_zero, if_pos rfl]
    go_wp2_with fail
    refine (check_nil w1).mono ?_
    rintro e w2 ⟨rfl, rfl⟩
    go_wp2_with fail
    go_ret
    exact ⟨hb, .inl ⟨rfl, rfl⟩⟩
  | succ n =>
    have HC := Lib.hid (check_err w1 (E n))
    unfold errAt at HC
    rw [errV_suc, if_neg (by omega)]
    go_wp2_with fail
    refine HC.out.mono ?_
    rintro e w2 ⟨rfl, rfl⟩
    go_wp2_with fail
    exact ⟨rfl, hb, .inr ⟨n, rfl, rfl⟩⟩
theorem actV_zero (w : World) (E : Nat → Addr) (n : Nat) (x : Int) (bx be : Nat) (hx : w.cell? ⟨bx, 0, none⟩ = some (.int .i64 x)) (hc : w.cell? ⟨be, 0, none⟩ = some (errV E n)) :
    ActV E n x w (.func (.func 10) #[] #[.pointer (some ⟨bx, 0, none⟩), .pointer (some ⟨be, 0, none⟩)]) :=
  ⟨_, _, rfl, fun w => by kernel_rfl, fun w' hb => act1_any w' E n x bx be (Below.keeps hb _ _ hx) (Below.keeps hb _ _ hc)⟩
theorem actV_suc (w : World) (E : Nat → Addr) (n : Nat) (hn : n ≤ 14) (x : Int) (b : Nat) (v : Value) (he : Errs w E) (hv : ActV E n x w v) (hc : w.cell? ⟨b, 0, none⟩ = some v) :
    ActV E n x w (.func (.func 12) #[] #[.pointer (some ⟨b, 0, none⟩)]) :=
  ⟨_, _, rfl, fun w => by kernel_rfl, fun w' hb => act2_any w' E n hn x b v (he.below hb) (hv.below hb) (Below.keeps hb _ _ hc)⟩
set_option maxRecDepth 20000 in
set_option maxHeartbeats 2000000 in
theorem must_law (y x z : Int) (w : World) (E : Nat → Addr) (he : Errs w E) :
    Calls Tryd.prog 3 #[.int .i64 y, .int .i64 x, .int .i64 z] w (ok1 w) := by
  have HE := Lib.hid he
  have hmf := @run_makeFunc Tryd.prog
  have hu1 := u64_conv y
  have hu2 := u64_conv z
  obtain ⟨n, hn, hk1⟩ : ∃ k : Nat, k < 15 ∧ (u64n y : Int) % 15 = (k : Int) := ⟨u64n y % 15, by omega, by omega⟩
  obtain ⟨D, hD, hk2⟩ : ∃ k : Nat, k < 6 ∧ (u64n z : Int) % 6 = (k : Int) := ⟨u64n z % 6, by omega, by omega⟩
  have hb0 := below_alloc1 w (.cells #[.int .i64 x] 3)
  have hx0 : (w.alloc (.cells #[.int .i64 x] 3)).cell? ⟨w.heap.size, 0, none⟩ = some (.int .i64 x) := cell_of_row _ _ 0 _ _ _ (heap_alloc_new w _)
  have HX0 := Lib.hid hx0
  have HB0 := Lib.hid hb0
  clear he hb0 hx0
  go_enter Tryd.func3, Tryd.ntmps3
  go_wp2_with fail
  refine (alive_any _ E (HE.out.below HB0.out)).mono ?_
  rintro e w1 ⟨rfl, hb1'⟩
  have HX1 := Lib.hid (Below.keeps hb1' _ _ HX0.out)
  have hb1 := HB0.out.trans (hb1'.mono HB0.out.size)
  clear hb1' HX0
  go_wp2_with fail
  refine (errorOf_any w1 E n (by omega) (HE.out.below hb1)).mono ?_
  rintro e w2 ⟨rfl, hb2'⟩
  have HX2 := Lib.hid (Below.keeps hb2' _ _ HX1.out)
  have hb2 := hb1.trans (hb2'.mono hb1.size)
  clear hb2' HX1 hu1 hu2 hk1 hk2
  cases n with
  | zero =>
    rw [errV_zero]
    have hv3 := actV_zero (w2.alloc (.cells #[.nilIface] 25)) E (0) x w.heap.size w2.heap.size (keep_alloc w2 _ _ _ HX2.out) (cell_of_row _ _ 0 _ _ _ (heap_alloc_new w2 _))
    have hb3 := below_alloc hb2 (.cells #[.nilIface] 25)
    have hx3 := keep_alloc w2 (.cells #[.nilIface] 25) _ _ HX2.out
    go_wp2_with fail
    generalize w2.alloc (.cells #[.nilIface] 25) = w3 at *
    have HV3 := Lib.hid hv3
    have HB3 := Lib.hid hb3
    have HX3 := Lib.hid hx3
    clear hv3 hb3 hx3 hb2 HX2 hb1
    go_wp2_with fail
    go_loopw [8, 26] (fun v i wr => ∃ k : Nat, k ≤ D ∧ i = .int .i64 k ∧ ActV E (0) x wr v ∧ Below w.heap.size w wr ∧ wr.cell? ⟨w.heap.size, 0, none⟩ = some (.int .i64 x)) (fun _ i _ => D - (intOf i).toNat)
    case atStart => exact ⟨0, by omega, rfl, HV3.out, HB3.out, HX3.out⟩
    case round =>
      obtain ⟨k, hk, rfl, hv, hbw, hxr⟩ := hrel
      have HV := Lib.hid hv
      by_cases hlt : k < D
      · obtain ⟨f, caps, rfl, _, _⟩ := hv
        have hbx := below_alloc hbw (.cells #[.func (.func f) #[] caps] 28)
        have hal := below_alloc1 wr (.cells #[.func (.func f) #[] caps] 28)
        have HN := Lib.hid (actV_suc _ E (0) (by omega) x wr.heap.size _ (HE.out.below hbx) (HV.out.below hal) (cell_of_row _ _ 0 _ _ _ (heap_alloc_new wr _)))
        have hxn := Below.keeps hal _ _ hxr
        clear hal hxr
        go_wp2_with fail
        go_roundw
        case rel => exact ⟨k + 1, by omega, by go_num, HN.out, hbx, hxn⟩
        case measure => simp [intOf]; omega
      · obtain rfl : k = D := by omega
        have HT := Lib.hid (try_act wr E (0) (by omega) x _ (HE.out.below hbw) hv)
        obtain ⟨f, caps, rfl, _, _⟩ := hv
        go_wp2_with fail
        refine HT.out.mono ?_
        rintro e w5 ⟨hb5', rfl⟩
        have hb5 := hbw.trans (hb5'.mono hbw.size)
        have hx5 := Below.keeps hb5' _ _ hxr
        have HN := Lib.hid (num_any w5 E (0) (by omega) (HE.out.below hb5))
        clear hb5' hxr
        rw [errV_zero, if_pos rfl]
        go_wp2_with fail
        go_ret
        exact ⟨rfl, hb5⟩
  | succ n =>
    rw [errV_suc]
    have hv3 := actV_zero (w2.alloc (.cells #[.iface 90 (.pointer (some (E n)))] 25)) E (n + 1) x w.heap.size w2.heap.size (keep_alloc w2 _ _ _ HX2.out) (cell_of_row _ _ 0 _ _ _ (heap_alloc_new w2 _))
    have hb3 := below_alloc hb2 (.cells #[.iface 90 (.pointer (some (E n)))] 25)
    have hx3 := keep_alloc w2 (.cells #[.iface 90 (.pointer (some (E n)))] 25) _ _ HX2.out
    go_wp2_with fail
    generalize w2.alloc (.cells #[.iface 90 (.pointer (some (E n)))] 25) = w3 at *
    have HV3 := Lib.hid hv3
    have HB3 := Lib.hid hb3
    have HX3 := Lib.hid hx3
    clear hv3 hb3 hx3 hb2 HX2 hb1
    go_wp2_with fail
    go_loopw [8, 26] (fun v i wr => ∃ k : Nat, k ≤ D ∧ i = .int .i64 k ∧ ActV E (n + 1) x wr v ∧ Below w.heap.size w wr ∧ wr.cell? ⟨w.heap.size, 0, none⟩ = some (.int .i64 x)) (fun _ i _ => D - (intOf i).toNat)
    case atStart => exact ⟨0, by omega, rfl, HV3.out, HB3.out, HX3.out⟩
    case round =>
      obtain ⟨k, hk, rfl, hv, hbw, hxr⟩ := hrel
      have HV := Lib.hid hv
      by_cases hlt : k < D
      · obtain ⟨f, caps, rfl, _, _⟩ := hv
        have hbx := below_alloc hbw (.cells #[.func (.func f) #[] caps] 28)
        have hal := below_alloc1 wr (.cells #[.func (.func f) #[] caps] 28)
        have HN := Lib.hid (actV_suc _ E (n + 1) (by omega) x wr.heap.size _ (HE.out.below hbx) (HV.out.below hal) (cell_of_row _ _ 0 _ _ _ (heap_alloc_new wr _)))
        have hxn := Below.keeps hal _ _ hxr
        clear hal hxr
        go_wp2_with fail
        go_roundw
        case rel => exact ⟨k + 1, by omega, by go_num, HN.out, hbx, hxn⟩
        case measure => simp [intOf]; omega
      · obtain rfl : k = D := by omega
        have HT := Lib.hid (try_act wr E (n + 1) (by omega) x _ (HE.out.below hbw) hv)
        obtain ⟨f, caps, rfl, _, _⟩ := hv
        go_wp2_with fail
        refine HT.out.mono ?_
        rintro e w5 ⟨hb5', rfl⟩
        have hb5 := hbw.trans (hb5'.mono hbw.size)
        have hx5 := Below.keeps hb5' _ _ hxr
        have HN := Lib.hid (num_any w5 E (n + 1) (by omega) (HE.out.below hb5))
        clear hb5' hxr
        rw [errV_suc] at HN
        rw [errV_suc, if_neg (by omega)]
        have hnz : (((n + 1 : Nat) : Int) == 0) = false := by rw [beq_eq_false_iff_ne]; omega
        have hnz2 : (((n : Nat) : Int) + 1 == 0) = false := by rw [beq_eq_false_iff_ne]; omega
        have hnn : (((n + 1 : Nat) : Int) == ((n + 1 : Nat) : Int)) = true := by simp
        go_wp2_with fail
        refine HN.out.mono ?_
        rintro e w6 ⟨rfl, hb6'⟩
        have hb6 := hb5.trans (hb6'.mono hb5.size)
        go_wp2_with fail
        go_ret
        exact ⟨rfl, hb6⟩
end Go.Proofs.YtliapmjocgohfaaDoor
