/-
  ToldAny: told over a value that is an error, but none of package api's.
-/
import Derived.Test.YtliapmjocgohfaaDoorToldR
import Derived.Test.YtliapmjocgohfaaDoorTryI
namespace Go.Proofs.YtliapmjocgohfaaDoor
open Go.RowKit Go.Extern.Stop Go.Stop Go.Extern

/-- an error that is none of package api's -/
structure Alien (T : TypeId) (v : Value) : Prop where
  is : ∀ (b : Addr) (w : World), Calls Tryd.prog 32 #[.iface T v, errAt b] w fun e w' => e = .returned (.bool false) ∧ w = w'
  asErr : ∀ w : World, (Instr.typeAssert (.iface T v) 20 25 true).run Tryd.prog w = .ok (.tuple #[.iface T v, .bool true]) w
theorem alienB (v : Value) : Alien 8 v := ⟨isB v, assertB v⟩
theorem alienS (v : Value) : Alien 10 v := ⟨isS v, assertS v⟩
theorem alienP (v : Value) : Alien 11 v := ⟨isP v, assertP v⟩
theorem told1_alien (w : World) (c : Nat) (T : TypeId) (v : Value) (b : Addr) (h : Alien T v) (hc : w.cell? ⟨c, 0, none⟩ = some (.iface T v)) :
    Calls Tryd.prog 39 #[errAt b, .pointer (some ⟨c, 0, none⟩)] w fun e w' => e = .returned (.bool false) ∧ w = w' := by
  have HI := h.is b w
  clear h
  unfold errAt at HI ⊢
  go_enter Tryd.func39, Tryd.ntmps39
  go_wp2_with fail
  refine HI.mono ?_
  rintro e w1 ⟨rfl, rfl⟩
  go_wp2_with fail
  go_ret
  exact ⟨rfl, rfl⟩
set_option maxHeartbeats 1000000 in
theorem indexAlien_any (w : World) (E : Nat → Addr) (g c : Nat) (T : TypeId) (v : Value) (h : Alien T v) (hg : Rd w (some ⟨g, 0, none⟩) (errList E)) (hc : w.cell? ⟨c, 0, none⟩ = some (.iface T v)) :
    Calls Tryd.prog 37 #[.slice (some ⟨g, 0, none⟩) 14 14, .func (.func 39) #[] #[.pointer (some ⟨c, 0, none⟩)]] w fun e w' => e = .returned (.int .i64 (-1)) ∧ w = w' := by
  have HA := Lib.hid h
  have HG := Lib.hid hg
  have HC := Lib.hid hc
  clear h hg hc
  go_enter Tryd.func37, Tryd.ntmps37
  go_wp2_with fail
  go_loop [8] (fun i => ∃ k : Nat, k ≤ 14 ∧ i = .int .i64 k) (fun i => 14 - (intOf i).toNat)
  case atStart => exact ⟨0, by omega, rfl⟩
  case round =>
    obtain ⟨k, hk, rfl⟩ := hrel
    by_cases hlt : k < 14
    · obtain ⟨b, off, hp, hcl⟩ := HG.out.has (by simp [errList])
      cases hp
      have hck := hcl k _ (errList_get E k (by omega))
      rw [Nat.zero_add] at hck
      unfold errAt at hck
      clear hcl
      go_wp2_with fail
      refine (told1_alien w c T v (E k) HA.out HC.out).mono ?_
      rintro e w' ⟨rfl, rfl⟩
      go_wp2_with fail
      go_round
      case rel => exact ⟨k + 1, by omega, by go_num⟩
      case measure => simp [intOf]; omega
    · obtain rfl : k = 14 := by omega
      go_wp2_with fail
      go_ret
      exact ⟨rfl, rfl⟩
set_option maxRecDepth 20000 in
set_option maxHeartbeats 1000000 in
theorem told_alien (E : Nat → Addr) (T : TypeId) (v : Value) (h : Alien T v) (w0 : World) : Tells w0 (.iface T v) E 12 := by
  intro w _ he
  have HE := Lib.hid he
  have HA := Lib.hid h
  have hmf := @run_makeFunc Tryd.prog
  have hta := h.asErr
  clear he h
  unfold errAt
  go_enter Tryd.func31, Tryd.ntmps31
  go_wp2_with fail
  have hb1 : Below w.heap.size w (w.alloc (.cells #[.iface T v] 25)) := below_alloc1 _ _
  have hc1 : (w.alloc (.cells #[.iface T v] 25)).cell? ⟨w.heap.size, 0, none⟩ = some (.iface T v) := cell_of_row _ _ 0 _ _ _ (heap_alloc_new w _)
  refine (own_any _ E (HE.out.below hb1)).mono ?_
  rintro e w2 ⟨rfl, hw2⟩
  have hb2 := below_alloc hb1 (.cells (errList E).toArray 25)
  have hc2 := keep_alloc _ (.cells (errList E).toArray 25) _ _ hc1
  have hr2 := rd_new (w.alloc (.cells #[.iface T v] 25)) (errList E).toArray 25 (0, 0)
  rw [← hw2] at hb2 hc2 hr2
  have HS := Lib.hid (show (w.alloc (.cells #[.iface T v] 25)).heap.size = w.heap.size + 1 by simp)
  rw [HS.out] at hr2 ⊢
  have HB2 := Lib.hid hb2
  have HC2 := Lib.hid hc2
  have HR2 := Lib.hid (show Rd w2 (some ⟨w.heap.size + 1, 0, none⟩) (errList E) by simpa using hr2)
  have he2 := (HE.out.below hb2).cell 12 (by omega)
  simp only [errVar, List.getD_cons_zero, List.getD_cons_succ, errAt] at he2
  clear hb1 hc1 hb2 hc2 hr2 hw2
  go_wp2_with fail
  refine (indexAlien_any w2 E _ _ T v HA.out HR2.out HC2.out).mono ?_
  rintro e w3 ⟨rfl, rfl⟩
  go_wp2_with fail
  go_ret
  exact ⟨rfl, HB2.out⟩
theorem told_own (E : Nat → Addr) (n : Nat) (hn : n < 14) (w0 : World) : Tells w0 (errAt (E n)) E n := fun w _ he => told_any w E n hn he
end Go.Proofs.YtliapmjocgohfaaDoor
