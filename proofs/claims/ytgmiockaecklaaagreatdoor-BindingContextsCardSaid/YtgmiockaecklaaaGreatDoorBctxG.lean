/-
  BctxG: package binding: values: the values of an element's attributes.
-/
import Derived.Test.YtgmiockaecklaaaGreatDoorBctxE
import Derived.Test.YtgmiockaecklaaaGreatDoorSm2
import Derived.Test.YtgmiockaecklaaaGreatDoorTreeW
namespace Go.Proofs.YtgmiockaecklaaaGreatDoor
open Go.RowKit Go.Extern.Stop Go.Stop Go.Extern Ieee
attribute [local go_sem] bs_toList bs_size

/-- the values of just these attributes -/
def valsT (ats : List (List (List UInt8))) (ks : List Tr) (ns : List (List UInt8)) : Option (List (List UInt8)) :=
  if ks.length = 0 ∧ ats.length = ns.length ∧ ats.map (List.take 2) = ns.map (fun n => [[], n]) then some (ats.map fun a => a.getD 2 []) else none
def ValsR (E : Nat → Addr) (x : Option (List (List UInt8))) (w : World) (e : Ending) (w' : World) : Prop :=
  Below w.heap.size w w' ∧ ((∃ vs v, x = some vs ∧ e = .returned v ∧ w'.ownsRow w.heap.size 9 1 v vs.length (strs vs)) ∨ (x = none ∧ e = .panicked (panE E 3)))
theorem strInfo : (Tryz.prog.info? 9).map (fun i => (i.zero, i.size, i.bytes)) = some (some (.string ⟨#[]⟩), 1, 16) := by kernel_rfl
theorem strs_get {l : List (List UInt8)} {k : Nat} (h : k < l.length) : (strs l)[k]? = some (.string (bs l[k])) := by simp [strs, h]
theorem strs_app (a b : List (List UInt8)) : strs (a ++ b) = strs a ++ strs b := by simp [strs]
theorem rd_str {w : World} {p : Option Addr} {l : List (List UInt8)} (h : Rd w p (strs l)) {k : Nat} (hk : k < l.length) : ∃ b off, p = some ⟨b, off, none⟩ ∧ w.cell? ⟨b, off + k, none⟩ = some (.string (bs l[k])) := by
  obtain ⟨b, off, hp, hc⟩ := h.has (fun e => by have := strs_len l; rw [e] at this; simp at this; omega)
  exact ⟨b, off, hp, hc k _ (strs_get hk)⟩
theorem map_take_step {α β : Type} (f : α → β) {xs : List α} {ys : List β} {k : Nat} (hx : k < xs.length) (hy : k < ys.length) (h : (xs.take k).map f = ys.take k) (he : f xs[k] = ys[k]) : (xs.take (k + 1)).map f = ys.take (k + 1) := by
  rw [List.take_succ_eq_append_getElem hx, List.take_succ_eq_append_getElem hy, List.map_append, h, List.map_cons, List.map_nil, he]
set_option maxRecDepth 20000 in
set_option maxHeartbeats 2000000 in
theorem values_any (x : Tr) (cx : List Value) (P : Nat → Prop) (pn : Option Addr) (cn : Nat) (ns : List (List UInt8)) (w : World) (E : Nat → Addr) (he : Errs w E) (hx : x.ok 2) (hcx : TrC w P x cx) (hn1 : ns.length ≤ cn) (hn2 : cn ≤ 1000) (hn3 : Rd w pn (strs ns)) :
    Calls Tryz.prog 41 #[.agg cx.toArray, .slice pn ns.length cn] w (ValsR E (valsT x.ats x.ks ns) w) := by
  obtain ⟨nx, ax, kx, tx⟩ := x
  unfold TrC at hcx
  unfold Tr.ok at hx
  obtain ⟨hx1, hx2, hx3⟩ := hx
  obtain ⟨a0, a1, rfl⟩ := two_of hx1
  obtain ⟨pa, ca, pk, ck, css, rfl, ⟨A1, A2, A3, -⟩, ⟨K1, K2, K3, -⟩, hL⟩ := hcx
  show Calls Tryz.prog 41 #[.agg #[.string (bs a0), .string (bs a1), .slice pa ax.length ca, .slice pk kx.length ck, .string (bs tx)], .slice pn ns.length cn] w (ValsR E (valsT ax kx ns) w)
  have HE := Lib.hid he
  have HA := Lib.hid A3; have HX2 := Lib.hid hx2; have HN := Lib.hid hn3
  unfold maxLen at A2 K2
  have B := Lib.hid (below_alloc1 w (.cells #[.string (bs a0), .string (bs a1), .slice pa ax.length ca, .slice pk kx.length ck, .string (bs tx)] 34))
  have N := Lib.hid (Blk.new w 34 #[.string (bs a0), .string (bs a1), .slice pa ax.length ca, .slice pk kx.length ck, .string (bs tx)])
  have q2 := (N.out.cell 2).trans rfl
  have q3 := (N.out.cell 3).trans rfl
  clear he A3 K3 hL hx1 hx2 hx3 hn3
  by_cases hk0 : kx.length = 0
  rotate_left 1
  · have HX := Lib.hid (show valsT ax kx ns = none by unfold valsT; rw [if_neg (fun h => hk0 h.1)])
    have d0 : ((kx.length : Int) == 0) = false := by rw [beq_eq_false_iff_ne]; omega
    have hf := Lib.hid (fail_n _ E (HE.out.below B.out))
    go_enter Tryz.func41, Tryz.ntmps41
    go_wp2_with fail
    refine hf.out.mono ?_
    rintro e w1 ⟨rfl, rfl⟩
    unfold panE errAt
    go_wp2_with fail
    exact ⟨rfl, B.out, .inr ⟨HX.out, rfl⟩⟩
  have d0 : ((kx.length : Int) == 0) = true := by rw [beq_iff_eq]; omega
  have HK0 := Lib.hid hk0
  clear hk0
  by_cases hla : ax.length = ns.length
  rotate_left 1
  · have HX := Lib.hid (show valsT ax kx ns = none by unfold valsT; rw [if_neg (fun h => hla h.2.1)])
    have d1 : ((ax.length : Int) == (ns.length : Int)) = false := by rw [beq_eq_false_iff_ne]; omega
    have hf := Lib.hid (fail_n _ E (HE.out.below B.out))
    go_enter Tryz.func41, Tryz.ntmps41
    go_wp2_with fail
    refine hf.out.mono ?_
    rintro e w1 ⟨rfl, rfl⟩
    unfold panE errAt
    go_wp2_with fail
    exact ⟨rfl, B.out, .inr ⟨HX.out, rfl⟩⟩
  have d1 : ((ax.length : Int) == (ns.length : Int)) = true := by rw [beq_iff_eq]; omega
  have hla' : ax.length ≤ ns.length := by omega
  have hla2 : ns.length ≤ ax.length := by omega
  have HLA := Lib.hid hla
  have hf := Lib.hid (fail_y (w.alloc (.cells #[.string (bs a0), .string (bs a1), .slice pa ax.length ca, .slice pk kx.length ck, .string (bs tx)] 34)))
  obtain ⟨i0, hi0, hz0, hz1, hz2⟩ := info_parts strInfo
  clear hla
  go_enter Tryz.func41, Tryz.ntmps41
  go_wp2_with fail
  refine hf.out.mono ?_
  rintro e w1 ⟨rfl, rfl⟩
  clear d0 d1 q2 q3
  go_wp2_with fail
  go_loopw [5, 23] (fun o i wr => ∃ k : Nat, k ≤ ns.length ∧ i = .int .i64 k ∧ (ax.take k).map (List.take 2) = (ns.map (fun n => [[], n])).take k ∧ wr.ownsRow (w.heap.size + 1) 9 1 o k (strs ((ax.take k).map fun a => a.getD 2 [])) ∧ Blk wr w.heap.size 34 #[.string (bs a0), .string (bs a1), .slice pa ax.length ca, .slice pk kx.length ck, .string (bs tx)] ∧ Below w.heap.size w wr) (fun _ i _ => ns.length - (intOf i).toNat)
  case atStart => exact ⟨0, by omega, rfl, rfl, ⟨rfl, .inl ⟨rfl, rfl⟩⟩, N.out, B.out⟩
  case round =>
    clear N B
    obtain ⟨k, hk, rfl, hmap, hown, hN, hbw⟩ := hrel
    by_cases hlt : k < ns.length
    · have hlt2 : k < ax.length := by omega
      obtain ⟨e1, o1, x0, x1, x2, rfl, hgx, hx0, hx1, hx2⟩ := at_2 HA.out HX2.out hlt2
      obtain ⟨e2, o2, rfl, hn⟩ := rd_str HN.out hlt
      have hx0 := Below.keeps hbw _ _ hx0
      have hx1 := Below.keeps hbw _ _ hx1
      have hx2 := Below.keeps hbw _ _ hx2
      have hn := Below.keeps hbw _ _ hn
      obtain ⟨po, co, rfl, _, _, _⟩ := owns_rd hown
      have q1 := (hN.cell 2).trans rfl
      have hlt' : (k : Int) < (ns.length : Int) := by omega
      have hlt2' : (k : Int) < (ax.length : Int) := by omega
      have HMAP := Lib.hid hmap; have HOW := Lib.hid hown; have HNN := Lib.hid hN; have HBW := Lib.hid hbw; have HGX := Lib.hid hgx
      have HST := Lib.hid (fun (hE : ax[k].take 2 = [[], ns[k]]) => map_take_step (List.take 2) hlt2 (ys := ns.map (fun n => [[], n])) (by simpa using hlt) hmap (by rw [hE]; simp))
      have HNO := Lib.hid (fun (hE : ¬ ax[k].take 2 = [[], ns[k]]) => show valsT ax kx ns = none by
        unfold valsT
        rw [if_neg]
        rintro ⟨_, _, h3⟩
        apply hE
        have := congrArg (fun l => l[k]?) h3
        simpa [hlt, hlt2] using this)
      have HAPP := Lib.hid (show strs ((ax.take (k + 1)).map fun a => a.getD 2 []) = strs ((ax.take k).map fun a => a.getD 2 []) ++ [.string (bs x2)] by
        rw [List.take_succ_eq_append_getElem hlt2, List.map_append, strs_app, hgx]; rfl)
      clear hmap hown hN hgx
      generalize ns[k] = nm at *
      generalize strs ((ax.take k).map fun a => a.getD 2 []) = L at *
      rw [HGX.out] at HST HNO
      clear HGX
      have en := fun w => peqName x0 x1 [] nm w
      cases hE : (x0 == [] && x1 == nm)
      · have HX := Lib.hid (HNO.out (by
          intro e
          simp only [List.take_succ_cons, List.take_zero, List.cons.injEq, and_true] at e
          rw [e.1, e.2] at hE
          simp at hE))
        have hf := Lib.hid (fail_n _ E (HE.out.below hbw))
        have en2 : ∀ w, (binOp .eql 30 (.agg #[.string (bs x0), .string (bs x1)]) (.agg #[.string ⟨#[]⟩, .string (bs nm)])).run Tryz.prog w = .ok (.bool false) w := fun w => by
          have := en w
          rw [hE] at this
          exact this
        clear en hE hbw HST HNO
        go_wp2_with fail
        refine hf.out.mono ?_
        rintro e w1 ⟨rfl, rfl⟩
        unfold panE errAt
        go_wp2_with fail
        exact ⟨rfl, HBW.out, .inr ⟨HX.out, rfl⟩⟩
      · have HST2 := Lib.hid (HST.out (by
          simp only [Bool.and_eq_true, beq_iff_eq] at hE
          rw [hE.1, hE.2]
          rfl))
        have hf := Lib.hid (fail_y wr)
        have en2 : ∀ w, (binOp .eql 30 (.agg #[.string (bs x0), .string (bs x1)]) (.agg #[.string ⟨#[]⟩, .string (bs nm)])).run Tryz.prog w = .ok (.bool true) w := fun w => by
          have := en w
          rw [hE] at this
          exact this
        clear en hE hbw HST HNO
        go_wp2_with fail
        refine hf.out.mono ?_
        rintro e w1 ⟨rfl, rfl⟩
        clear en2 hx0 hx1
        have hs2 : w.heap.size + 1 ≤ (wr.alloc (.cells #[.string (bs x2)] 9)).heap.size := by have := HNN.out.lt; simp; omega
        have hown2 := owns_below HOW.out (below_alloc1 wr (.cells #[.string (bs x2)] 9))
        have HO2 := Lib.hid hown2
        have hN2 := Lib.hid (HNN.out.alloc (.cells #[.string (bs x2)] 9))
        have hB2 := Lib.hid (below_alloc HBW.out (.cells #[.string (bs x2)] 9))
        clear hown2
        go_wp2_with (at_builtin; refine wpList_app (.tmp 38) (.tmp 45) 27 rfl rfl (w.heap.size + 1) 9 i0 (.string ⟨#[]⟩) 1 16 Tryz.underlying27 hi0 hz0 hz1 hz2 rfl (by decide) _ _ _ rfl HO2.out _ _ _ [.string (bs x2)] rfl rfl (rd_at _ #[_] _ _ _ (by simp)) ?b1 ?b2 ?b3 hs2 ?_)
        case b1 => simp [Value.oneCell']
        case b2 => unfold maxLen; omega
        case b3 => omega
        intro v1 w1 ho1 hg1
        obtain ⟨p1, cp1, rfl, _, _, _⟩ := owns_rd ho1
        have hlo : ∀ g, (Value.slice po k co).ownBlock = some g → w.heap.size + 1 ≤ g := fun g hg => (HO2.out.lt g hg).1
        have R1 := Lib.hid (show Blk w1 w.heap.size 34 _ from (hg1.block _ hN2.out.lt fun e => by have := hlo _ e.symm; omega).trans hN2.out)
        have R2 := Lib.hid (hB2.out.grown hg1 (by simp; have := HNN.out.lt; omega) fun g hg => by have := hlo g hg; omega)
        have R3 := Lib.hid (show w1.ownsRow (w.heap.size + 1) 9 1 (.slice p1 (k + 1) cp1) (k + 1) (strs ((ax.take (k + 1)).map fun a => a.getD 2 [])) by rw [HAPP.out]; exact ho1)
        clear hlo ho1 hg1 HO2 hN2 hB2 hx2 q1 hn
        go_wp2_with fail
        go_roundw
        case rel => exact ⟨k + 1, by omega, by go_num, HST2.out, R3.out, R1.out, R2.out⟩
        case measure => simp [intOf]; omega
    · obtain rfl : k = ns.length := by omega
      rw [List.take_of_length_le (by omega)] at hmap hown
      rw [List.take_of_length_le (by simp)] at hmap
      have HX := Lib.hid (show valsT ax kx ns = some (ax.map fun a => a.getD 2 []) by
        unfold valsT
        rw [if_pos ⟨HK0.out, HLA.out, hmap⟩])
      obtain ⟨po, co, rfl, _, _, _⟩ := owns_rd hown
      have HO := Lib.hid (owns_lower hown (by omega : w.heap.size ≤ w.heap.size + 1))
      clear hmap hown
      go_wp2_with fail
      go_ret
      refine ⟨hbw, .inl ⟨_, _, HX.out, rfl, ?_⟩⟩
      rw [List.length_map, HLA.out]
      exact HO.out
end Go.Proofs.YtgmiockaecklaaaGreatDoor
