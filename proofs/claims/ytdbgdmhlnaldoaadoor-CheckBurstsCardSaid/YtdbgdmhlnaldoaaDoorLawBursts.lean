/-
  LawBursts: the walk of CheckBursts.
-/
import Derived.Test.YtdbgdmhlnaldoaaDoorBurst
import Derived.Test.YtdbgdmhlnaldoaaDoorLawSpoilt
namespace Go.Proofs.YtdbgdmhlnaldoaaDoor
open Go.RowKit

theorem bit_test (y : BitVec 32) (k : Nat) : (bits .and .u32 (n32 y / 2 ^ k) 1 == 1) = y.getLsbD k := by
  have h1 : n32 y / 2 ^ k = n32 (y >>> k) := by
    unfold n32; rw [BitVec.toNat_ushiftRight, Nat.shiftRight_eq_div_pow]; simp
  have h2 : (1 : Int) = n32 1#32 := by decide
  rw [h1]
  conv => lhs; rw [h2]
  rw [bits32_and, n32_beq]
  have h3 : (y >>> k).getLsbD 0 = y.getLsbD k := by rw [BitVec.getLsbD_ushiftRight, Nat.add_zero]
  rw [← h3]
  generalize y >>> k = z
  rw [Bool.eq_iff_iff, beq_iff_eq]
  constructor
  · intro h
    have := congrArg (·.getLsbD 0) h
    simpa using this
  · intro h
    apply BitVec.eq_of_getLsbD_eq
    intro i hi
    rw [BitVec.getLsbD_and, BitVec.getLsbD_one]
    cases i with
    | zero => simp [h]
    | succ i => simp
attribute [local go_sem] bits8_xor bs_toList
set_option maxHeartbeats 2000000 in
theorem bursts_any (v : Value) (l : List UInt8) (x : Int) (y : BitVec 32) (w : World) (E : Nat → Addr) (ht : HalfTab w) (he : Errs w E) (hv : Byt w v l) :
    Calls Tryd.prog 6 #[v, .int .i64 x, .int .u32 (n32 y)] w fun e w' => e = .returned (.bool true) ∧ Below w.heap.size w w' := by
  have HV := Lib.hid hv
  have HE := Lib.hid he
  obtain ⟨p, cap, rfl, h1, h2, h3⟩ := hv
  unfold maxLen at h2
  clear h3 he
  have hu := u64_conv x
  go_enter Tryd.func6, Tryd.ntmps6
  go_wp2_with fail
  refine (alive_any _ ht).mono ?_
  rintro e w1 ⟨rfl, hb1⟩
  by_cases hl : l.length ≤ 500
  · have hld : decide (500 < (l.length : Int)) = false := by simp; omega
    go_wp2_with fail
    refine (seal_any _ l w1 (ht.keep (Below.keeps hb1)) (by omega) (HV.out.below hb1)).mono ?_
    rintro e w2 ⟨v2, rfl, ho2, hb2⟩
    have hb12 := hb1.trans (hb2.mono hb1.size)
    by_cases hl5 : l.length < 5
    · have hd5 : decide ((l.length : Int) < 5) = true := by simp; omega
      go_wp2_with fail
      go_ret
      exact ⟨rfl, hb12⟩
    · have hd5 : decide ((l.length : Int) < 5) = false := by simp; omega
      have hsl : (sealed l).length = l.length + 4 := by unfold sealed; rw [List.length_append, four_len]
      obtain ⟨f, hf⟩ : ∃ f, f = u64n x % (8 * l.length - 31) := ⟨_, rfl⟩
      have hfl : f < 8 * l.length - 31 := by rw [hf]; exact Nat.mod_lt _ (by omega)
      have hfm : (u64n x : Int) % (8 * (l.length : Int) - 31) = (f : Int) := by
        rw [hf, show 8 * (l.length : Int) - 31 = ((8 * l.length - 31 : Nat) : Int) by omega, Int.natCast_emod]
      clear hf
      obtain ⟨p2, c2, hv2, h21, h22, h23⟩ := owns_rd ho2
      subst hv2
      have HO2 := Lib.hid ho2
      clear ho2 h23
      unfold maxLen at h22
      have hown2 : w2.ownsRow w1.heap.size 5 1 (.slice p2 (l.length + 4) c2) (l.length + 4) (bvs (l ++ four (rsum l))) := by
        have := HO2.out; rw [hsl] at this; exact this
      have HO3 := Lib.hid hown2
      clear HO2 hown2
      rw [hsl]
      rw [hsl] at h21
      go_wp2_with fail
      go_loopw [32] (fun i wr => ∃ (k : Nat) (l' : List UInt8), k ≤ 32 ∧ i = .int .i64 k ∧ Turned l f y k l' ∧ wr.ownsRow w1.heap.size 5 1 (.slice p2 (l.length + 4) c2) (l.length + 4) (bvs (l' ++ four (rsum l))) ∧ Below w.heap.size w wr) (fun i _ => 32 - (intOf i).toNat)
      case atStart => exact ⟨0, l, by omega, rfl, Turned.start l f y, HO3.out, hb12⟩
      case round =>
        obtain ⟨k, l', hk, rfl, htn, hown, hbw⟩ := hrel
        have HT := Lib.hid htn
        have HW := Lib.hid hown
        have HBW := Lib.hid hbw
        clear htn hown hbw
        by_cases hlt : k < 32
        · have dk : decide ((k : Int) < 32) = true := by simp; omega
          have hcond := bit_test y k
          cases hbit : y.getLsbD k
          · rw [hbit] at hcond
            go_wp2_with fail
            go_roundw
            case rel => exact ⟨k + 1, l', by omega, by go_num, HT.out.skip hbit, HW.out, HBW.out⟩
            case measure => simp [intOf]; omega
          · rw [hbit] at hcond
            have hll := HT.out.len
            obtain ⟨q, hq⟩ : ∃ q, q = (f + k) / 8 := ⟨_, rfl⟩
            obtain ⟨r, hr⟩ : ∃ r, r = (f + k) % 8 := ⟨_, rfl⟩
            have hql : q < l'.length := by omega
            have hqI : ((f : Int) + (k : Int)) / 8 = (q : Int) := by omega
            have hrI : ((f : Int) + (k : Int)) % 8 = (r : Int) := by omega
            have hqp : q < l.length + 4 := by omega
            have hqpI : (q : Int) < (l.length : Int) + 4 := by omega
            have HQ := Lib.hid hq
            have HR := Lib.hid hr
            have hr8 : r < 8 := by omega
            clear hq hr
            have hks : q < (l' ++ four (rsum l)).length := by rw [List.length_append]; omega
            obtain ⟨g, cg, cur, hvs, hgb⟩ : ∃ g cap cur, Value.slice p2 (l.length + 4) c2 = .slice (some ⟨g, 0, none⟩) (l.length + 4) cap ∧ w1.heap.size ≤ g ∧ wr.heap[g]? = some (.cells cur 5 (0, 0)) := by
              rcases HW.out.2 with ⟨_, h0⟩ | ⟨g, cap, cur, hv, hb, hg, _⟩
              · omega
              · exact ⟨g, cap, cur, hv, hb, hg⟩
            simp only [Value.slice.injEq] at hvs
            obtain ⟨rfl, _, rfl⟩ := hvs
            have hcell : wr.cell? ⟨g, q, none⟩ = some (.int .u8 ((l' ++ four (rsum l))[q].toNat : Int)) := by
              have := HW.out.cellAt q (by omega)
              rw [this, bvs_get _ q hks]
            obtain ⟨c, hc⟩ : ∃ c, c = (l' ++ four (rsum l))[q] := ⟨_, rfl⟩
            rw [← hc] at hcell
            have HC := Lib.hid hc
            have HCELL := Lib.hid hcell
            clear hc hcell
            go_wp2_with fail
            refine wp_phi_tail (List.take 10 _) (List.drop 10 _) (List.take_append_drop 10 _).symm (fun w' => w'.cell? ⟨g, q, none⟩ = some (.int .u8 (c.toNat : Int)) ∧ Below wr.heap.size wr w')
              [] [] (by kernel_rfl) (by kernel_rfl) ?_ ?_ ⟨HCELL.out, (Below.refl _ _).drew⟩ ?_
            · rintro w1 w2 ⟨a1, a2⟩ hb
              exact ⟨Below.keeps hb _ _ a1, a2.trans (hb.mono a2.size)⟩
            · intro p hp; cases hp
            simp only [List.take_succ_cons, List.take_zero, List.drop_succ_cons, List.drop_zero]
            repeat (refine phi_pureK rfl rfl (fun K hK => ?_); apply Exists.intro; constructor; (rintro w' ⟨hI1, hI2⟩; clear hI2; first | (go_simp; (try go_bits); (try go_simp); rfl) | go_simp); simp only [Act.put, List.setIfInBounds_toArray, List.set_cons_succ, List.set_cons_zero, List.nil_append, List.cons_append]; apply hK; clear hK K)
            refine phi_done ?_
            rintro w' ⟨hI1, hI2⟩ _
            have hown' := owns_below HW.out hI2
            have hfz : w'.frozen? ⟨g, q, none⟩ = false := hown'.frozenAt q
            have HI2 := Lib.hid hI2
            have HO' := Lib.hid hown'
            clear hI2 hown'
            go_wp2_with fail
            go_roundw
            case rel =>
              have hx : bits .xor .u8 (c.toNat : Int) (2 ^ r % 256) = ((bx c (bitb r)).toNat : Int) := by
                rw [← bits8_xor]
                have : ((bitb r).toNat : Int) = 2 ^ r % 256 := by
                  unfold bitb; rw [UInt8.toNat_ofNat']; simp
                rw [this]
              rw [hx]
              have hst := (HO'.out.stored q (.int .u8 ((bx c (bitb r)).toNat : Int))).1
              have hset : (bvs (l' ++ four (rsum l))).set q (.int .u8 ((bx c (bitb r)).toNat : Int)) = bvs (l'.set q (bx c (bitb r)) ++ four (rsum l)) := by
                rw [← List.set_append_left _ _ hql]; simp only [bvs, List.map_set]; rfl
              rw [hset] at hst
              have hcl : c = l'[q] := by rw [HC.out, List.getElem_append_left hql]
              have hq := HQ.out
              have hr := HR.out
              have hb3 : Below w.heap.size w (w'.setCell ⟨g, q, none⟩ (.int .u8 ((bx c (bitb r)).toNat : Int))) := (HBW.out.trans (HI2.out.mono HBW.out.size)).setCell (by have := hb1.size; have := hgb.1; show w.heap.size ≤ g; omega) _
              refine ⟨k + 1, l'.set q (bx c (bitb r)), by omega, by go_num, ?_, hst, hb3⟩
              have hfl2 := HT.out.flip hbit hlt (by omega) (by omega)
              subst hcl
              subst hq
              subst hr
              exact hfl2
            case measure => simp [intOf]; omega
        · obtain rfl : k = 32 := by omega
          have ho := HW.out
          have htr := ht.keep (Below.keeps HBW.out)
          have her := HE.out.below HBW.out
          obtain ⟨sp, hsp⟩ : ∃ sp, sp = l' ++ four (rsum l) := ⟨_, rfl⟩
          have hlen : sp.length = l.length + 4 := by rw [hsp, List.length_append, HT.out.len, four_len]
          rw [← hsp, ← hlen] at ho
          have hby := owns_byt ho
          rw [hlen] at hby
          have HSAME := Lib.hid (show y = 0 → sp = sealed l from fun h => by rw [hsp, HT.out.same h]; rfl)
          have HERR := Lib.hid (show y ≠ 0 → openErr sp = 5 from fun h => by rw [hsp]; exact HT.out.err h)
          clear ho hsp
          go_wp2_with fail
          refine (open_any _ sp wr E htr her (by omega) hby).mono ?_
          rintro e w4 ⟨v4, rfl, hby4, hb4⟩
          have hb5 := HBW.out.trans (hb4.mono HBW.out.size)
          have HB4 := Lib.hid hby4
          clear hb4 hby4 hby htr her
          by_cases hy : y = 0
          · subst hy
            have hsame : sp = sealed l := HSAME.out rfl
            have hE0 : errV E (openErr sp) = .nilIface := by rw [hsame, (open_sealed l).1]; rfl
            have hby4 := HB4.out
            rw [hsame, (open_sealed l).2] at hby4
            have s1 := run_str (P := Tryd.prog) Tryd.underlying24 Tryd.underlying5 Tryd.underlying9 hby4
            have s2 := run_str (P := Tryd.prog) Tryd.underlying24 Tryd.underlying5 Tryd.underlying9 (HV.out.keep (Below.keeps hb5))
            rw [hE0]
            have hz : n32 0 = 0 := by decide
            rw [hz]
            clear hE0 hsame hby4 hz
            go_wp2_with fail
            go_ret
            exact ⟨rfl, hb5⟩
          · have hy0 : (n32 y == 0) = false := by
              simp only [beq_eq_false_iff_ne, ne_eq]
              intro h
              exact hy (n32_inj (h.trans (by decide)))
            have hE5 : openErr sp = 5 := HERR.out hy
            have hby4 := HB4.out
            rw [openRes_err (by rw [hE5]; decide)] at hby4
            rw [hE5]
            obtain ⟨q, cq, rfl, _, _, _⟩ := hby4
            clear hE5 hy HB4
            have he4 := HE.out.below hb5
            go_wp2_with fail
            refine (num_any w4 E 5 (by omega) he4).mono ?_
            rintro e w6 ⟨rfl, hb6⟩
            go_wp2_with fail
            go_ret
            exact ⟨rfl, hb5.trans (hb6.mono hb5.size)⟩
  · have hld : decide (500 < (l.length : Int)) = true := by simp; omega
    go_wp2_with fail
    go_ret
    exact ⟨rfl, hb1⟩
end Go.Proofs.YtdbgdmhlnaldoaaDoor
