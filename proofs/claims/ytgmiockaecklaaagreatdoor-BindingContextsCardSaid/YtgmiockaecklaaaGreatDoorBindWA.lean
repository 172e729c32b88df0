/-
  BindW: the walks of package binding's names, and of the document's.
-/
import Derived.Test.YtgmiockaecklaaaGreatDoorBindFA
import Derived.Test.YtgmiockaecklaaaGreatDoorBA
import Derived.Test.YtgmiockaecklaaaGreatDoorBE
namespace Go.Proofs.YtgmiockaecklaaaGreatDoor
open Go.RowKit
attribute [local go_sem] bs_toList bs_size

theorem errV_nil (E : Nat → Addr) : errV E 0 = .nilIface := rfl
/-- block g holds the names l -/
def Tab (w : World) (g : Nat) (l : List (List UInt8)) : Prop := ∀ i, i < l.length → w.cell? ⟨g, i, none⟩ = some (.string (bs (l.getD i [])))
theorem Tab.below {w w' : World} {g : Nat} {l : List (List UInt8)} (h : Tab w g l) (hb : Below w.heap.size w w') : Tab w' g l := fun i hi => Below.keeps hb _ _ (h i hi)
set_option maxRecDepth 20000 in
theorem named_any (l : List (List UInt8)) (g : Nat) (n : Int) (w : World) (ht : Tab w g l) (hl : l.length ≤ 100) :
    Calls Tryz.prog 25 #[.slice (some ⟨g, 0, none⟩) l.length l.length, .int .i64 n] w (Gives w (.string (bs (nameF l n)))) := by
  by_cases h1 : n < 1
  · have d1 : decide (n < 1) = true := by simpa using h1
    have HR := Lib.hid (show nameF l n = [] by unfold nameF; rw [if_pos (.inl h1)])
    clear h1
    go_enter Tryz.func25, Tryz.ntmps25
    go_wp2_with fail
    go_ret
    exact ⟨by rw [HR.out]; rfl, Below.refl _ _⟩
  · have d1 : decide (n < 1) = false := by simpa using h1
    by_cases h2 : (l.length : Int) < n
    · have d2 : decide ((l.length : Int) < n) = true := by simpa using h2
      have HR := Lib.hid (show nameF l n = [] by unfold nameF; rw [if_pos (.inr h2)])
      clear h1 h2
      go_enter Tryz.func25, Tryz.ntmps25
      go_wp2_with fail
      go_ret
      exact ⟨by rw [HR.out]; rfl, Below.refl _ _⟩
    · obtain ⟨k, rfl⟩ : ∃ k : Nat, n = (k : Int) + 1 := ⟨(n - 1).toNat, by omega⟩
      have hk : k < l.length := by omega
      have hki : (k : Int) < (l.length : Int) := by omega
      have d2 : decide ((l.length : Int) < (k : Int) + 1) = false := by simp; omega
      have HR := Lib.hid (show nameF l ((k : Int) + 1) = l.getD k [] by
        unfold nameF
        rw [if_neg (by omega)]
        congr 1; omega)
      have hc := ht k hk
      clear h1 h2 ht
      generalize l.getD k [] = s at *
      go_enter Tryz.func25, Tryz.ntmps25
      go_wp2_with fail
      go_ret
      exact ⟨by rw [HR.out]; rfl, Below.refl _ _⟩
set_option maxRecDepth 20000 in
set_option maxHeartbeats 1000000 in
theorem kindName_any (n : Int) (w : World) (ht : Tab w 16 kindsL) :
    Calls Tryz.prog 51 #[.int .i64 n] w (Gives w (.agg #[.string (bs (spaceF n)), .string (bs (kindF n))])) := by
  have HT := Lib.hid ht
  clear ht
  by_cases h : 17 ≤ n
  · have d : decide (17 ≤ n) = true := by simpa using h
    have HS := Lib.hid (show (16 < n) by omega)
    clear h
    go_enter Tryz.func51, Tryz.ntmps51
    go_wp2_with fail
    have hb1 := below_alloc1 w (.cells #[.string ⟨#[]⟩, .string ⟨#[]⟩] 30)
    refine (named_any kindsL 16 n _ (HT.out.below hb1) (by decide)).mono ?_
    rintro e w2 ⟨rfl, hb2⟩
    have HN := Lib.hid (Blk.below (Blk.new w 30 #[.string ⟨#[]⟩, .string ⟨#[]⟩]) hb2 (by simp))
    have hb := hb1.trans (hb2.mono hb1.size)
    clear hb1 hb2
    go_wp2_with (refine wpList_store (.tmp 2) (.tmp 8) 30 rfl rfl w.heap.size 0 _ _ #[.string (bs wscoorL), .string (bs (nameF kindsL n))] rfl rfl HN.out (by kernel_rfl) ?s1 ?s2 ?_)
    case s1 => first | exact ⟨rfl, rfl⟩ | simp [Value.oneCell']
    case s2 => simp
    intro w7 hn7 ko7
    have h7 : Blk w7 w.heap.size 30 #[.string (bs wscoorL), .string (bs (nameF kindsL n))] := hn7
    have q0 := (h7.cell 0).trans rfl
    have q1 := (h7.cell 1).trans rfl
    go_wp2_with fail
    refine bodyPost_ret (v := .agg #[.string (bs wscoorL), .string (bs (nameF kindsL n))]) (by simp [results, Tryz.results51, go_sem, q0, q1]) rfl ?_
    exact ⟨by unfold spaceF kindF; rw [if_pos HS.out], hb.trans (ko7.below (Nat.le_refl _))⟩
  · have d : decide (17 ≤ n) = false := by simpa using h
    have HS := Lib.hid (show n ≤ 16 by omega)
    clear h
    go_enter Tryz.func51, Tryz.ntmps51
    go_wp2_with fail
    have hb1 := below_alloc1 w (.cells #[.string ⟨#[]⟩, .string ⟨#[]⟩] 30)
    refine (named_any kindsL 16 n _ (HT.out.below hb1) (by decide)).mono ?_
    rintro e w2 ⟨rfl, hb2⟩
    have HN := Lib.hid (Blk.below (Blk.new w 30 #[.string ⟨#[]⟩, .string ⟨#[]⟩]) hb2 (by simp))
    have hb := hb1.trans (hb2.mono hb1.size)
    clear hb1 hb2
    go_wp2_with (refine wpList_store (.tmp 2) (.tmp 12) 30 rfl rfl w.heap.size 0 _ _ #[.string (bs wsbaL), .string (bs (nameF kindsL n))] rfl rfl HN.out (by kernel_rfl) ?s1 ?s2 ?_)
    case s1 => first | exact ⟨rfl, rfl⟩ | simp [Value.oneCell']
    case s2 => simp
    intro w7 hn7 ko7
    have h7 : Blk w7 w.heap.size 30 #[.string (bs wsbaL), .string (bs (nameF kindsL n))] := hn7
    have q0 := (h7.cell 0).trans rfl
    have q1 := (h7.cell 1).trans rfl
    go_wp2_with fail
    refine bodyPost_ret (v := .agg #[.string (bs wsbaL), .string (bs (nameF kindsL n))]) (by simp [results, Tryz.results51, go_sem, q0, q1]) rfl ?_
    exact ⟨by unfold spaceF kindF; rw [if_neg (Int.not_lt.2 HS.out)], hb.trans (ko7.below (Nat.le_refl _))⟩
def actE (n : Int) : Nat := if kindF n = [] then 4 else 0
set_option maxRecDepth 20000 in
set_option maxHeartbeats 1000000 in
theorem action_any (n : Int) (w : World) (E : Nat → Addr) (he : ErrsOn [3] w E) (ht : Tab w 16 kindsL) :
    Calls Tryz.prog 15 #[.int .i64 n] w (Gives w (.tuple #[.string (bs (actF n)), errV E (actE n)])) := by
  have HE := Lib.hid he
  have l1 := spaceF_len n
  have l2 := kindF_len n
  have HK := Lib.hid (kindName_any n w ht)
  clear he ht
  go_enter Tryz.func15, Tryz.ntmps15
  go_wp2_with fail
  refine HK.out.mono ?_
  rintro e w1 ⟨rfl, hb1⟩
  by_cases hk : kindF n = []
  · have hA := Lib.hid (show actF n = [] ∧ actE n = 4 by unfold actF actE; rw [if_pos hk, if_pos hk]; exact ⟨rfl, rfl⟩)
    rw [hk]
    have he3 := (HE.out.below (below_alloc hb1 (.cells #[.string (bs (spaceF n)), .string (bs [])] 30))).cell 3 rfl
    simp only [errVar, List.getD_cons_zero, List.getD_cons_succ, errAt] at he3
    clear hk HK
    go_wp2_with fail
    go_quiet (fail)
    go_wp2_with fail
    go_ret2
    exact ⟨by rw [hA.out.1, hA.out.2, errV_four]; rfl, (below_alloc hb1 _).trans ((below_drewN _ _).mono (below_alloc hb1 _).size)⟩
  · have hA := Lib.hid (show actF n = spaceF n ++ [47] ++ kindF n ∧ actE n = 0 by unfold actF actE; rw [if_neg hk, if_neg hk]; exact ⟨rfl, rfl⟩)
    have g1 : (kindF n == []) = false := by simpa using hk
    have g2 : (kindF n).isEmpty = false := by simpa using hk
    have s1 := fun w => run_str_add (P := Tryz.prog) w (spaceF n) [47] (by simp; omega)
    have s2 := fun w => run_str_add (P := Tryz.prog) w (spaceF n ++ [47]) (kindF n) (by simp; omega)
    clear hk HK
    go_wp2_with fail
    go_ret2
    exact ⟨by rw [hA.out.1, hA.out.2, ← bs_append, ← bs_append]; rfl, below_alloc hb1 _⟩
end Go.Proofs.YtgmiockaecklaaaGreatDoor
