/-
  Atoi2: strconv.Atoi of a text that is no number: its error.
-/
import Derived.Test.YtliapmjocgohfaaDoorAtoi
namespace Go.Proofs.YtliapmjocgohfaaDoor
open Go.RowKit Go.Extern.Stop Go.Stop Go.Extern

def textB : ByteArray := ⟨#[116, 101, 120, 116]⟩
/-- what the variable ErrSyntax holds: a pointer to sy -/
def SynAt (w : World) (sy : Addr) : Prop := w.cell? ⟨14, 0, none⟩ = some (errAt sy)
theorem SynAt.below {w w' : World} {sy : Addr} (h : SynAt w sy) (hb : Below w.heap.size w w') : SynAt w' sy := Below.keeps hb _ _ h
def SynErr (w : World) (fn s : ByteArray) (sy : Addr) (e : Ending) (w' : World) : Prop :=
  ∃ N, e = .returned (.pointer (some ⟨N, 0, none⟩)) ∧ w.heap.size ≤ N ∧ Blk w' N 84 #[.string fn, .string s, errAt sy] ∧ Below w.heap.size w w'
set_option maxRecDepth 20000 in
theorem syntax_any (fn s : ByteArray) (sy : Addr) (w : World) (hlim : s.size ≤ 281474976710656) (h0 : ¬ s.size = 0) (hs : SynAt w sy) :
    Calls Tryd.prog 46 #[.string fn, .string s] w (SynErr w fn s sy) := by
  have HL := Lib.hid hlim
  have H0 := Lib.hid h0
  have hbb : Below w.heap.size w w := Below.refl _ _
  clear hlim h0
  unfold SynAt errAt at hs
  go_enter Tryd.func46, Tryd.ntmps46
  go_wp2_with fail
  refine wp_phi_tail (List.take 4 _) (List.drop 4 _) (List.take_append_drop 4 _).symm (fun w' => (w'.cell? ⟨14, 0, none⟩ = some (.iface 90 (.pointer (some sy)))) ∧ Below w.heap.size w w') [(2, PVal (.string s))] [] (by kernel_rfl) (by kernel_rfl) ?_ ?_ ⟨hs, (hbb).drew⟩ ?_
  · rintro w1' w2' ⟨gs, hIB⟩ hb
    exact ⟨(by first | exact gs.below hb | exact gs.keep (Below.keeps hb) | exact Below.keeps hb _ _ gs | exact Blk.below gs hb (Blk.lt gs)), hIB.trans (hb.mono hIB.size)⟩
  · simp only [List.mem_cons, List.not_mem_nil, or_false, forall_eq_or_imp, forall_eq]
    exact fun _ _ _ _ h' h => PVal_stays _ _ _ _ h' h
  simp only [List.take_succ_cons, List.take_zero, List.drop_succ_cons, List.drop_zero]
  repeat (first | (refine phi_skipK rfl (fun K hK => ?_); simp only [Act.put, List.setIfInBounds_toArray, List.set_cons_succ, List.set_cons_zero]; (try simp only [List.cons_append]); (try simp only [List.nil_append]); apply hK; clear hK K) | (refine phi_pureK rfl rfl (fun K hK => ?_); apply Exists.intro; constructor; (rintro w' ⟨gs, hIB⟩; clear hIB; first | (go_simp; (try go_bits); (try go_simp); rfl) | go_simp); simp only [Act.put, List.setIfInBounds_toArray, List.set_cons_succ, List.set_cons_zero]; (try simp only [List.cons_append]); (try simp only [List.nil_append]); apply hK; clear hK K))
  refine phi_partK (PVal (.string s)) rfl rfl ⟨_, rfl⟩ ?_ (fun K hK v hv => ?_)
  · rintro w' ⟨gs, hIB⟩ hf
    unfold gives
    clear hf
    go_simp
    refine (clone_str s w' HL.out H0.out).mono ?_
    rintro e w'' ⟨rfl, hb⟩
    exact ⟨_, rfl, rfl, trivial, hb⟩
  obtain rfl : v = _ := hv
  simp only [Act.put, List.setIfInBounds_toArray, List.set_cons_succ, List.set_cons_zero]; (try simp only [List.cons_append]); (try simp only [List.nil_append])
  apply hK
  clear hK K
  repeat (first | (refine phi_skipK rfl (fun K hK => ?_); simp only [Act.put, List.setIfInBounds_toArray, List.set_cons_succ, List.set_cons_zero]; (try simp only [List.cons_append]); (try simp only [List.nil_append]); apply hK; clear hK K) | (refine phi_pureK rfl rfl (fun K hK => ?_); apply Exists.intro; constructor; (rintro w' ⟨gs, hIB⟩; clear hIB; first | (go_simp; (try go_bits); (try go_simp); rfl) | go_simp); simp only [Act.put, List.setIfInBounds_toArray, List.set_cons_succ, List.set_cons_zero]; (try simp only [List.cons_append]); (try simp only [List.nil_append]); apply hK; clear hK K))
  refine phi_done ?_
  rintro w5 ⟨gs, hb5⟩ _
  have hbx := Blk.new w5 84 #[.string fn, .string s, .iface 90 (.pointer (some sy))]
  have hkx := below_alloc hb5 (.cells #[.string fn, .string s, .iface 90 (.pointer (some sy))] 84)
  have HX := Lib.hid hbx
  have HK := Lib.hid hkx
  have HS5 := Lib.hid hb5.size
  clear hbx hkx hb5 gs hbb hs
  go_wp2_with fail
  go_ret
  exact ⟨_, rfl, HS5.out, HX.out, HK.out⟩
theorem eql_code (x : Int) (w : World) : (binOp .eql 25 (.iface 72 (.int .i64 x)) (.iface 72 (.int .i64 x))).run Tryd.prog w = .ok (.bool true) w := by
  have h : ∀ d : Nat, (Op.equalIn (d + 2) 25 (.iface 72 (.int .i64 x)) (.iface 72 (.int .i64 x))).run Tryd.prog w = .ok true w := fun d => by
    obtain ⟨i, hi, hc⟩ := Option.map_eq_some_iff.1 (show (Tryd.prog.info? 72).map (·.comparable) = some true by kernel_rfl)
    simp [Op.equalIn, run_underlying Tryd.underlying25, run_underlying Tryd.underlying72, typeInfo, hi, hc]
  simp only [binOp]
  simp [Op.equal, Op.maxDepth, h 9998]
set_option maxRecDepth 20000 in
theorem toError_any (fn s : ByteArray) (sy : Addr) (w : World) (hlim : s.size ≤ 281474976710656) (h0 : ¬ s.size = 0) (hs : SynAt w sy) :
    Calls Tryd.prog 43 #[.string fn, .string s, .int .i64 0, .int .i64 0, .iface 72 (.int .i64 2)] w fun e w' =>
      ∃ N, e = .returned (.iface 76 (.pointer (some ⟨N, 0, none⟩))) ∧ w.heap.size ≤ N ∧ Blk w' N 84 #[.string fn, .string s, errAt sy] ∧ Below w.heap.size w w' := by
  have HY := Lib.hid (syntax_any fn s sy w hlim h0 hs)
  have heq := eql_code 2
  clear hlim h0 hs
  go_enter Tryd.func43, Tryd.ntmps43
  go_wp2_with fail
  refine HY.out.mono ?_
  rintro e w1 ⟨N, rfl, hN, hB, hb⟩
  go_wp2_with fail
  go_ret
  exact ⟨N, rfl, hN, hB, hb⟩
set_option maxRecDepth 20000 in
theorem atoi_text (sy : Addr) (w : World) (hs : SynAt w sy) :
    Calls Tryd.prog 33 #[.string ⟨#[116, 101, 120, 116]⟩] w fun e w' =>
      ∃ N fn s, e = .returned (.tuple #[.int .i64 0, .iface 76 (.pointer (some ⟨N, 0, none⟩))]) ∧ w.heap.size ≤ N ∧ Blk w' N 84 #[.string fn, .string s, errAt sy] ∧ Below w.heap.size w w' := by
  have HS := Lib.hid hs
  clear hs
  go_enter Tryd.func33, Tryd.ntmps33
  go_wp2_with fail
  refine (iatoi_text w).mono ?_
  rintro e w1 ⟨rfl, hb1⟩
  go_wp2_with fail
  refine (toError_any _ _ sy w1 (by decide) (by decide) (HS.out.below hb1)).mono ?_
  rintro e w2 ⟨N, rfl, hN, hB, hb2⟩
  have HB := Lib.hid hB
  have hb := hb1.trans (hb2.mono hb1.size)
  have hNN := Nat.le_trans hb1.size hN
  clear hB hb2
  go_wp2_with fail
  go_ret2
  exact ⟨N, _, _, rfl, hNN, HB.out, hb⟩
end Go.Proofs.YtliapmjocgohfaaDoor
