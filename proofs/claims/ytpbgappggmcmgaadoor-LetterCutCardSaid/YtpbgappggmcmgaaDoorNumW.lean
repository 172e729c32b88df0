/-
  NumW: the walks of fields.Number and of slices.Reverse over bytes.
-/
import Derived.Test.YtpbgappggmcmgaaDoorNumB
import Derived.Test.YtpbgappggmcmgaaDoorClone
import Derived.Test.YtpbgappggmcmgaaDoorPhi
import Derived.Test.YtpbgappggmcmgaaDoorErrOn
import Derived.Shelf.SlicesE.Reverse
import Derived.Ground.SlgnProg
import Derived.Lib.OwnBridge
namespace Go.Proofs.YtpbgappggmcmgaaDoor
open Go.RowKit Go.Shelf Go.Lib Go.Sort
shelf_lay_g SlLaysE.n35 Slgn 35 at Tryd 48 as Tryd.rev



theorem reverse_any (W : World) (v : Value) (l : List UInt8) (w : World) (hl : l.length ≤ 1099511627776) (ho : w.ownsRow W.heap.size 5 1 v l.length (bvs l)) (hW : Below W.heap.size W w) :
    Calls Tryd.prog 48 #[v] w fun e w' => e = .returned (.tuple #[]) ∧ w'.ownsRow W.heap.size 5 1 v l.length (bvs l.reverse) ∧ Below W.heap.size W w' := by
  by_cases h0 : v = .slice none 0 0
  · subst h0
    have hn : l.length = 0 := by
      rcases ho.2 with ⟨_, h⟩ | ⟨g, cap, cur, hv, _⟩
      · exact h
      · cases hv
    have hl0 : l = [] := List.eq_nil_of_length_eq_zero hn
    subst hl0
    refine (AnyE.slices_Reverse_empty Tryd.rev none 0 w).mono ?_
    rintro e w' ⟨rfl, rfl⟩
    exact ⟨rfl, ho, hW⟩
  · obtain ⟨g, cap, rfl, hb, hg, hn, hm, hlen, hH⟩ := holds_of_ownsRow (enc := bv) (zs := l) ho h0
    refine (AnyE.slices_Reverse Tryd.rev bv (fun _ => rfl) g 0 cap l w hH (by omega)).mono ?_
    rintro e w' ⟨rfl, n, rfl⟩
    refine ⟨rfl, ?_, below_putRow hW hb⟩
    have := ownsRow_putRow (enc := bv) (q := n) (k := l.length) (ys := l.reverse) ho (by simp) (Nat.le_refl _)
    rw [List.take_of_length_le (by simp)] at this
    exact this
/-- the call gives a slice of bytes of its own and an error's number -/
def GivesB (w : World) (E : Nat → Addr) (l : List UInt8) (n : Nat) (e : Ending) (w' : World) : Prop :=
  ∃ v, e = .returned (.tuple #[v, errV E n]) ∧ w'.ownsRow w.heap.size 5 1 v l.length (bvs l) ∧ Below w.heap.size w w'
theorem shr8 (m : Nat) : ((m : Int) / 256) = ((m / 256 : Nat) : Int) := by omega
set_option maxRecDepth 20000 in
set_option maxHeartbeats 1000000 in
theorem number_any (x : Int) (w : World) (E : Nat → Addr) (hx : x ≤ 9223372036854775807) (he : ErrsOn [0] w E) :
    Calls Tryd.prog 27 #[.int .i64 x] w (GivesB w E (if x < 0 then [] else numB x.toNat) (if x < 0 then 1 else 0)) := by
  have HE := Lib.hid he
  clear he
  obtain ⟨i0, hi, hz0, hz1, hz2⟩ := info_parts byt8Info
  go_enter Tryd.func27, Tryd.ntmps27
  by_cases hneg : x < 0
  · have hd : decide (x < 0) = true := decide_eq_true hneg
    rw [if_pos hneg, if_pos hneg]
    clear hneg
    go_wp2_with fail
    refine wp_phi (fun w' => ErrsOn [0] w' E ∧ Below w.heap.size w w') [] [] (by kernel_rfl) (by kernel_rfl) ?_ ?_ ⟨HE.out.below ((Below.refl _ _).drew), (Below.refl _ _).drew⟩ ?_
    · rintro w1 w2 ⟨a1, a2⟩ hb
      exact ⟨a1.below hb, a2.trans (hb.mono a2.size)⟩
    · intro p hp; cases hp
    repeat (refine phi_pureK rfl rfl (fun K hK => ?_); apply Exists.intro; constructor; (rintro w' ⟨hI1, hI2⟩; have s1 := hI1.cell 0 rfl; simp only [errVar, List.getD_cons_zero] at s1; clear hI1 hI2; first | (go_simp; (try go_bits); (try go_simp); rfl) | go_simp); simp only [Act.put, List.setIfInBounds_toArray, List.set_cons_succ, List.set_cons_zero]; (try simp only [List.cons_append]); (try simp only [List.nil_append]); apply hK; clear hK K)
    refine phi_done ?_
    rintro w1 ⟨_, hbw⟩ _
    refine wpList_nil ?_
    go_wp2_with fail
    go_ret2
    exact ⟨_, rfl, ⟨rfl, .inl ⟨rfl, rfl⟩⟩, hbw⟩
  · obtain ⟨n, rfl⟩ : ∃ n : Nat, x = (n : Int) := ⟨x.toNat, by omega⟩
    rw [if_neg hneg, if_neg hneg, show ((n : Int)).toNat = n by omega]
    have hd : decide ((n : Int) < 0) = false := decide_eq_false hneg
    have HLEN := Lib.hid (numB_len (n := n) 8 (by omega))
    clear hneg
    go_wp2_with fail
    go_loopw [0, 4] (fun i v wr => ∃ (m : Nat) (o : List UInt8), m ≤ n ∧ i = .int .i64 m ∧ numB n = numB m ++ o.reverse ∧ wr.ownsRow w.heap.size 5 1 v o.length (bvs o) ∧ Below w.heap.size w wr) (fun i _ _ => (RowKit.intOf i).toNat)
    case atStart => exact ⟨n, [], by omega, rfl, by simp, ⟨rfl, .inl ⟨rfl, rfl⟩⟩, Below.refl _ _⟩
    case round =>
      obtain ⟨m, o, hm, rfl, hnum, hown, hbw⟩ := hrel
      have hlen : o.length ≤ 8 := by
        have := congrArg List.length hnum
        rw [List.length_append, List.length_reverse] at this
        have := HLEN.out
        omega
      have HN := Lib.hid hnum
      have hwr := hbw.size
      clear hnum
      by_cases h0 : 0 < m
      · have d0 : decide ((0 : Int) < (m : Int)) = true := decide_eq_true (by omega)
        have d0' : decide (0 < m) = true := decide_eq_true h0
        have hown' := fun o => owns_below hown (below_alloc1 wr o)
        have hmb : m ≤ 9223372036854775807 := by omega
        go_wp2_with (at_builtin; refine wpList_app (.tmp 12) (.tmp 15) 27 rfl rfl w.heap.size 5 i0 (.int .u8 0) 1 1 Tryd.underlying27 hi hz0 hz1 hz2 rfl (by decide) _ _ _ rfl (hown' _) _ _ _ (bvs [UInt8.ofNat m]) rfl ?c0 ?cr bvs_one ?c1 ?c2 ?cb ?_)
        case c0 => rfl
        case cr =>
          have := rd_new wr #[.int .u8 ((m : Int) % 256)] 5 (0, 0)
          have hb : bvs [UInt8.ofNat m] = [.int .u8 ((m : Int) % 256)] := by
            simp only [bvs, List.map_cons, List.map_nil, bv, byte_wrap]; simp
          rw [hb]; exact this
        case c1 => unfold maxLen; omega
        case c2 => omega
        case cb => have := (below_alloc1 wr (.cells #[.int .u8 ((m : Int) % 256)] 5 (0, 0))).size; omega
        intro v' w' ho hg
        have hbw0 : Below w.heap.size w (wr.alloc (.cells #[.int .u8 ((m : Int) % 256)] 5 (0, 0))) := below_alloc hbw _
        have hbw' := hbw0.grown hg hbw0.size (fun j hj => (hown.lt j hj).1)
        have HP := Lib.hid (numB_pos (show m ≠ 0 by omega))
        clear hown hown' hg
        go_wp2_with fail
        go_roundw
        case rel => exact ⟨m / 256, o ++ [UInt8.ofNat m], by omega, by go_num, by rw [HN.out, HP.out, List.reverse_append]; simp, by rw [List.length_append, bvs_app]; exact ho, hbw'⟩
        case measure => simp [RowKit.intOf]; omega
      · obtain rfl : m = 0 := by omega
        clear h0
        have HR := Lib.hid (show numB n = o.reverse by rw [HN.out, numB_zero, List.nil_append])
        have d0 : decide ((0 : Int) < ((0 : Nat) : Int)) = false := by decide
        go_wp2_with fail
        refine (reverse_any w _ o wr (by omega) hown hbw).mono ?_
        rintro e w5 ⟨rfl, ho5, hb5⟩
        go_wp2_with fail
        go_ret2
        exact ⟨_, rfl, by rw [HR.out, List.length_reverse]; exact ho5, hb5⟩
/-- the same, its two sides under names -/
def numR (x : Int) : List UInt8 := if x < 0 then [] else numB x.toNat
def numE (x : Int) : Nat := if x < 0 then 1 else 0
theorem number_r (x : Int) (w : World) (E : Nat → Addr) (hx : x ≤ 9223372036854775807) (he : ErrsOn [0] w E) :
    Calls Tryd.prog 27 #[.int .i64 x] w (GivesB w E (numR x) (numE x)) := number_any x w E hx he
theorem numR_neg {x : Int} (h : x < 0) : numR x = [] := by unfold numR; rw [if_pos h]
theorem numE_neg {x : Int} (h : x < 0) : numE x = 1 := by unfold numE; rw [if_pos h]
theorem numR_nat (n : Nat) : numR (n : Int) = numB n := by unfold numR; rw [if_neg (by omega)]; rfl
theorem numE_nat (n : Nat) : numE (n : Int) = 0 := by unfold numE; rw [if_neg (by omega)]
end Go.Proofs.YtpbgappggmcmgaaDoor
