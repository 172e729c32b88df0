/-
  One: catch.one, All and Until over acts of which it is known what they turn.
-/
import Derived.Test.YtliapmjocgohfaaDoorDoes15
import Derived.Test.YtliapmjocgohfaaDoorTryB
import Derived.Test.YtliapmjocgohfaaDoorCatchP
namespace Go.Proofs.YtliapmjocgohfaaDoor
open Go.RowKit Go.Extern.Stop Go.Stop Go.Extern

/-- an act ends: it returns, or panics with what is told as package api's error m - 1 -/
def EndsAs (E : Nat → Addr) (m : Nat) (e : Ending) (w' : World) : Prop :=
  (m = 0 ∧ e = .returned (.tuple #[])) ∨ ∃ u n, m = n + 1 ∧ n < 14 ∧ (∃ T x, u = .iface T x) ∧ Tells w' u E n ∧ e = .panicked [{ v := u, recovered := false }]
/-- the value v is an act that turns the blocks S alone, and brings C to C' -/
def ActAt (S : List Nat) (w0 : World) (E : Nat → Addr) (C C' : World → Prop) (m : Nat) (v : Value) : Prop :=
  (v = .nilFunc ∧ m = 13 ∧ ∀ w, C w → C' w) ∨
  ∃ f caps, v = .func (.func f) #[] caps ∧ (∀ w, (callFunc f caps).run Tryd.prog w = .ok (.enter f caps) w) ∧ ∀ w1, But S w0 w1 → C w1 → Calls Tryd.prog f caps w1 fun e w2 => But S w1 w2 ∧ C' w2 ∧ EndsAs E m e w2
theorem one1_any (S : List Nat) (w0 w : World) (E : Nat → Addr) (C C' : World → Prop) (m : Nat) (v : Value) (b : Nat) (hv : ActAt S w0 E C C' m v) (hb : w.cell? ⟨b, 0, none⟩ = some v) (hw : But S w0 w) (hC : C w) :
    Calls Tryd.prog 44 #[.pointer (some ⟨b, 0, none⟩)] w fun e w2 => MayG (fun v w2 => v = .bool true ∧ m = 0 ∧ C' w2) (fun n w2 => m = n + 1 ∧ C' w2) E e w2 ∧ But S w w2 := by
  rcases hv with ⟨rfl, rfl, hc⟩ | ⟨f, caps, rfl, hcf, hdo⟩
  · have HC := Lib.hid (hc w hC)
    clear hw hC hc
    go_enter Tryd.func44, Tryd.ntmps44
    go_wp2_with fail
    exact ⟨rfl, .inr ⟨_, 12, by omega, ⟨rfl, HC.out⟩, ⟨_, _, rfl⟩, told_alien E _ _ (alienS _) _, rfl⟩, But.of_below (Below.refl _ _)⟩
  · have HD := Lib.hid (hdo w hw hC)
    clear hdo hw hC
    go_enter Tryd.func44, Tryd.ntmps44
    go_wp2_with fail
    refine HD.out.mono ?_
    rintro e w2 ⟨hbut, hc, hor⟩
    have HB := Lib.hid hbut
    have HC := Lib.hid hc
    clear hbut hc
    rcases hor with ⟨rfl, rfl⟩ | ⟨u, n, rfl, hn, ⟨T, x, rfl⟩, ht, rfl⟩
    · go_wp2_with fail
      go_ret
      exact ⟨.inl ⟨_, rfl, rfl, HC.out⟩, HB.out⟩
    · have HT := Lib.hid ht
      clear ht
      go_wp2_with fail
      exact ⟨rfl, .inr ⟨_, n, hn, ⟨rfl, HC.out⟩, ⟨_, _, rfl⟩, HT.out, rfl⟩, HB.out⟩
theorem one_any (S : List Nat) (w0 w : World) (E : Nat → Addr) (C C' : World → Prop) (m : Nat) (hm : m ≤ 14) (v : Value) (hS : ∀ s ∈ S, s < w0.heap.size)
    (hst : ∀ w w', C w → Below w0.heap.size w w' → C w') (hst' : ∀ w w', C' w → Below w0.heap.size w w' → C' w') (he : ∀ w', But S w0 w' → Errs w' E)
    (hv : ActAt S w0 E C C' m v) (hw : But S w0 w) (hC : C w) :
    Calls Tryd.prog 35 #[v] w fun e w' => e = .returned (errV E m) ∧ But S w0 w' ∧ C' w' := by
  rcases (show v = .nilFunc ∨ ∃ f caps, v = .func (.func f) #[] caps from by
    rcases hv with ⟨h, _⟩ | ⟨f, caps, h, _⟩
    · exact .inl h
    · exact .inr ⟨f, caps, h⟩) with rfl | ⟨f, caps, rfl⟩
  ·
    have hmf := @run_makeFunc Tryd.prog
    have hb1 := below_alloc1 w (.cells #[.nilFunc] 1)
    have HN := Lib.hid (show (w.alloc (.cells #[.nilFunc] 1)).heap.size = w.heap.size + 1 by simp)
    have HV := Lib.hid (Blk.new w 1 #[.nilFunc])
    have HW := Lib.hid (hw.trans (But.of_below hb1))
    have HC := Lib.hid (hst _ _ hC (hb1.mono hw.size))
    have HB1 := Lib.hid hb1
    have HS0 := Lib.hid hw.size
    have HST := Lib.hid hst
    have HST' := Lib.hid hst'
    have HE := Lib.hid he
    have HA := Lib.hid hv
    have HSl := Lib.hid hS
    have HW0 := Lib.hid hw
    clear hw hC hb1 hst hst' he hv hS
    go_enter Tryd.func35, Tryd.ntmps35
    go_wp2_with fail
    generalize w.alloc (.cells #[.nilFunc] 1) = w1 at *
    refine (tryB_any w1 E 44 _ S (fun _ v w2 => v = .bool true ∧ m = 0 ∧ C' w2) (fun n _ w2 => m = n + 1 ∧ C' w2) (fun s hs => by have := HSl.out s hs; have := HS0.out; have := HN.out; omega)
      (fun w' h => HE.out w' (HW.out.trans h)) (fun _ v _ hv => ⟨true, hv.1⟩) (fun w => by simp [go_sem]) (fun w4 hb4 hs4 => ?_)).mono ?_
    · exact one1_any S w0 w4 E C C' m _ w.heap.size HA.out (((HV.out.below hb4 HV.out.lt).cell 0).trans rfl) (HW.out.trans (But.of_below hb4)) (HST.out _ _ HC.out (hb4.mono (by have := HS0.out; have := HN.out; omega)))
    · rintro e w6 ⟨hb6, w4, w5, hs4, hb4, hb5, hb56, hor⟩
      have hC6 : ∀ x, C' w5 → x = w6 → C' x := by
        rintro x h rfl
        exact HST'.out _ _ h (hb56.below (fun s hs => by simp at hs; have := HS0.out; have := HN.out; omega) (by have := hb5.size; have := HS0.out; have := HN.out; omega))
      have HB6 := Lib.hid ((HW.out.trans hb6))
      have hC6' := fun h => hC6 _ h rfl
      clear hb6 hs4 hb4 hb5 hb56 hC6
      rcases hor with ⟨v', rfl, rfl, rfl, h⟩ | ⟨n, hn, ⟨rfl, h⟩, rfl⟩
      · have HC6 := Lib.hid (hC6' h)
        clear hC6' h
        go_wp2_with fail
        go_ret
        exact ⟨rfl, HB6.out, HC6.out⟩
      · have HC6 := Lib.hid (hC6' h)
        clear hC6' h
        unfold errAt
        go_wp2_with fail
        go_ret
        exact ⟨rfl, HB6.out, HC6.out⟩
  ·
    have hmf := @run_makeFunc Tryd.prog
    have hb1 := below_alloc1 w (.cells #[.func (.func f) #[] caps] 1)
    have HN := Lib.hid (show (w.alloc (.cells #[.func (.func f) #[] caps] 1)).heap.size = w.heap.size + 1 by simp)
    have HV := Lib.hid (Blk.new w 1 #[.func (.func f) #[] caps])
    have HW := Lib.hid (hw.trans (But.of_below hb1))
    have HC := Lib.hid (hst _ _ hC (hb1.mono hw.size))
    have HB1 := Lib.hid hb1
    have HS0 := Lib.hid hw.size
    have HST := Lib.hid hst
    have HST' := Lib.hid hst'
    have HE := Lib.hid he
    have HA := Lib.hid hv
    have HSl := Lib.hid hS
    have HW0 := Lib.hid hw
    clear hw hC hb1 hst hst' he hv hS
    go_enter Tryd.func35, Tryd.ntmps35
    go_wp2_with fail
    generalize w.alloc (.cells #[.func (.func f) #[] caps] 1) = w1 at *
    refine (tryB_any w1 E 44 _ S (fun _ v w2 => v = .bool true ∧ m = 0 ∧ C' w2) (fun n _ w2 => m = n + 1 ∧ C' w2) (fun s hs => by have := HSl.out s hs; have := HS0.out; have := HN.out; omega)
      (fun w' h => HE.out w' (HW.out.trans h)) (fun _ v _ hv => ⟨true, hv.1⟩) (fun w => by simp [go_sem]) (fun w4 hb4 hs4 => ?_)).mono ?_
    · exact one1_any S w0 w4 E C C' m _ w.heap.size HA.out (((HV.out.below hb4 HV.out.lt).cell 0).trans rfl) (HW.out.trans (But.of_below hb4)) (HST.out _ _ HC.out (hb4.mono (by have := HS0.out; have := HN.out; omega)))
    · rintro e w6 ⟨hb6, w4, w5, hs4, hb4, hb5, hb56, hor⟩
      have hC6 : ∀ x, C' w5 → x = w6 → C' x := by
        rintro x h rfl
        exact HST'.out _ _ h (hb56.below (fun s hs => by simp at hs; have := HS0.out; have := HN.out; omega) (by have := hb5.size; have := HS0.out; have := HN.out; omega))
      have HB6 := Lib.hid ((HW.out.trans hb6))
      have hC6' := fun h => hC6 _ h rfl
      clear hb6 hs4 hb4 hb5 hb56 hC6
      rcases hor with ⟨v', rfl, rfl, rfl, h⟩ | ⟨n, hn, ⟨rfl, h⟩, rfl⟩
      · have HC6 := Lib.hid (hC6' h)
        clear hC6' h
        go_wp2_with fail
        go_ret
        exact ⟨rfl, HB6.out, HC6.out⟩
      · have HC6 := Lib.hid (hC6' h)
        clear hC6' h
        unfold errAt
        go_wp2_with fail
        go_ret
        exact ⟨rfl, HB6.out, HC6.out⟩
end Go.Proofs.YtliapmjocgohfaaDoor
