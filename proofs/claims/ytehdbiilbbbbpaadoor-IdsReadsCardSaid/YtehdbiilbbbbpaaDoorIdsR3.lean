/-
  IdsR3: package ids: what the readers do within Try.
-/
import Derived.Test.YtehdbiilbbbbpaaDoorIdsR2
import Derived.Test.YtehdbiilbbbbpaaDoorStruct
namespace Go.Proofs.YtehdbiilbbbbpaaDoor
open Go.RowKit Go.Extern.Stop Go.Stop Go.Extern

def limX (n : Nat) (m : Nat) : Except Nat Unit := if n ≤ m then .ok () else .error 0
def toNodeT (s : List UInt8) : Except Nat Nat := (afterT 110 s).bind fun t => (digX t).bind fun n => (limX n 3).bind fun _ => .ok n
def toActT (s : List UInt8) : Except Nat (Nat × Nat) := (afterT 97 s).bind fun t => (twoT 46 t).bind fun p => (limX p.1 3).bind fun _ => (limX p.2 999999).bind fun _ => .ok p
def toPartT (s : List UInt8) : Except Nat (Nat × Nat) := (afterT 112 s).bind fun t => (twoT 46 t).bind fun p => (limX p.1 3).bind fun _ => (limX p.2 7).bind fun _ => .ok p
def toRegT (s : List UInt8) : Except Nat (Nat × Nat × Nat) :=
  match cutT 47 s with
  | none => .error 3
  | some c => (afterT 97 c.1).bind fun t => (twoT 46 t).bind fun p => (digX c.2).bind fun r => (limX p.1 3).bind fun _ => (limX p.2 999999).bind fun _ => (limX r 5).bind fun _ => .ok (p.1, p.2, r)
theorem bind_ok {α β : Type} {x : Except Nat α} {f : α → Except Nat β} {a : α} (h : x = .ok a) : x.bind f = f a := by rw [h]; rfl
theorem bind_error {α β : Type} {x : Except Nat α} {f : α → Except Nat β} {n : Nat} (h : x = .error n) : x.bind f = .error n := by rw [h]; rfl
theorem limX_ok {n m : Nat} (h : (n : Int) ≤ (m : Int)) : limX n m = .ok () := by unfold limX; rw [if_pos (by omega)]
theorem limX_error {n m : Nat} (h : (m : Int) < (n : Int)) : limX n m = .error 0 := by unfold limX; rw [if_neg (by omega)]
theorem afterT_len {c : UInt8} {l m : List UInt8} (h : afterT c l = .ok m) : m.length ≤ l.length := by
  unfold afterT at h
  split at h
  · cases h
  · split at h
    · cases h; simp
    · cases h
theorem toNode1_any (s : List UInt8) (hs : s.length ≤ 1000000) (b : Nat) (w : World) (E : Nat → Addr) (he : Errs w E) (hb : Blk w b 9 #[.string (bs s)]) :
    Calls Tryd.prog 33 #[.pointer (some ⟨b, 0, none⟩)] w (ExR E (toNodeT s) (fun n => .int .i64 (n : Int)) w) := by
  have c0 := (hb.cell 0).trans rfl
  have HE := Lib.hid he
  have B0 := Lib.hid (Below.refl w.heap.size w)
  clear hb he
  go_enter Tryd.func33, Tryd.ntmps33
  go_wp2_with fail
  refine (after_any 110 s w E HE.out).mono ?_
  rintro e w1 ⟨hb, ⟨t, ha, rfl⟩ | ⟨n, ha, hn, rfl⟩⟩
  case inr =>
    have HB := Lib.hid (B0.out.trans (hb.mono B0.out.size))
    have HA := Lib.hid ha
    have HN := Lib.hid hn
    clear hb ha hn
    unfold panE errAt
    go_wp2_with fail
    exact ⟨rfl, HB.out, .inr ⟨n, (bind_error HA.out : _), HN.out, rfl⟩⟩
  have B1 := Lib.hid hb
  have H1 := Lib.hid ha
  have hl := afterT_len ha
  clear hb ha c0
  go_wp2_with fail
  refine (digits_any t (by omega) w1 E (HE.out.below B1.out)).mono ?_
  rintro e w2 ⟨hb, ⟨m, ha, rfl⟩ | ⟨n, ha, hn, rfl⟩⟩
  case inr =>
    have HB := Lib.hid (B1.out.trans (hb.mono B1.out.size))
    have HA := Lib.hid ha
    have HN := Lib.hid hn
    clear hb ha hn
    unfold panE errAt
    go_wp2_with fail
    exact ⟨rfl, HB.out, .inr ⟨n, ((bind_ok H1.out).trans (bind_error HA.out) : _), HN.out, rfl⟩⟩
  have B2 := Lib.hid (B1.out.trans (hb.mono B1.out.size))
  have H2 := Lib.hid ha
  clear hb ha hl
  go_wp2_with fail
  refine (upTo_any m 3 w2 E (HE.out.below B2.out)).mono ?_
  rintro e w9 ⟨rfl, ⟨hle, rfl⟩ | ⟨hle, rfl⟩⟩
  case inr =>
    have HA := Lib.hid (limX_error hle)
    clear hle
    unfold panE errAt
    go_wp2_with fail
    exact ⟨rfl, B2.out, .inr ⟨0, ((bind_ok H1.out).trans ((bind_ok H2.out).trans (bind_error HA.out)) : _), by omega, rfl⟩⟩
  have H3 := Lib.hid (limX_ok hle)
  clear hle
  go_wp2_with fail
  go_ret
  exact ⟨B2.out, .inl ⟨m, (bind_ok H1.out).trans ((bind_ok H2.out).trans (bind_ok H3.out)), rfl⟩⟩
theorem toAct1_any (s : List UInt8) (hs : s.length ≤ 1000000) (b : Nat) (w : World) (E : Nat → Addr) (he : Errs w E) (hb : Blk w b 9 #[.string (bs s)]) :
    Calls Tryd.prog 38 #[.pointer (some ⟨b, 0, none⟩)] w (ExR E (toActT s) (fun p => .agg #[.int .i64 (p.1 : Int), .int .i64 (p.2 : Int)]) w) := by
  have hb0 := below_alloc1 w (.cells #[.int .i64 0, .int .i64 0] 23)
  have c0 := ((hb.alloc (.cells #[.int .i64 0, .int .i64 0] 23)).cell 0).trans rfl
  have HE := Lib.hid he
  have B0 := Lib.hid hb0
  have N0 := Lib.hid (Blk.new w 23 #[.int .i64 0, .int .i64 0])
  clear hb he hb0
  go_enter Tryd.func38, Tryd.ntmps38
  go_wp2_with fail
  generalize w.alloc (.cells #[.int .i64 0, .int .i64 0] 23) = w0 at *
  refine (after_any 97 s w0 E (HE.out.below B0.out)).mono ?_
  rintro e w1 ⟨hb, ⟨t, ha, rfl⟩ | ⟨n, ha, hn, rfl⟩⟩
  case inr =>
    have HB := Lib.hid (B0.out.trans (hb.mono B0.out.size))
    have HA := Lib.hid ha
    have HN := Lib.hid hn
    clear hb ha hn
    unfold panE errAt
    go_wp2_with fail
    exact ⟨rfl, HB.out, .inr ⟨n, (bind_error HA.out : _), HN.out, rfl⟩⟩
  have B1 := Lib.hid (B0.out.trans (hb.mono B0.out.size))
  have N1 := Lib.hid (N0.out.below hb N0.out.lt)
  have H1 := Lib.hid ha
  have hl := afterT_len ha
  clear hb ha c0
  go_wp2_with fail
  refine (two_any 46 t (by omega) w1 E (HE.out.below B1.out)).mono ?_
  rintro e w2 ⟨hb, ⟨m, ha, rfl⟩ | ⟨n, ha, hn, rfl⟩⟩
  case inr =>
    have HB := Lib.hid (B1.out.trans (hb.mono B1.out.size))
    have HA := Lib.hid ha
    have HN := Lib.hid hn
    clear hb ha hn
    unfold panE errAt
    go_wp2_with fail
    exact ⟨rfl, HB.out, .inr ⟨n, ((bind_ok H1.out).trans (bind_error HA.out) : _), HN.out, rfl⟩⟩
  have B2 := Lib.hid (B1.out.trans (hb.mono B1.out.size))
  have N2 := Lib.hid (N1.out.below hb N1.out.lt)
  have H2 := Lib.hid ha
  clear hb ha hl
  go_wp2_with fail
  refine (upTo_any m.1 3 w2 E (HE.out.below B2.out)).mono ?_
  rintro e w9 ⟨rfl, ⟨hle, rfl⟩ | ⟨hle, rfl⟩⟩
  case inr =>
    have HA := Lib.hid (limX_error hle)
    clear hle
    unfold panE errAt
    go_wp2_with fail
    exact ⟨rfl, B2.out, .inr ⟨0, ((bind_ok H1.out).trans ((bind_ok H2.out).trans (bind_error HA.out)) : _), by omega, rfl⟩⟩
  have H3 := Lib.hid (limX_ok hle)
  clear hle
  go_wp2_with fail
  refine (upTo_any m.2 999999 w2 E (HE.out.below B2.out)).mono ?_
  rintro e w9 ⟨rfl, ⟨hle, rfl⟩ | ⟨hle, rfl⟩⟩
  case inr =>
    have HA := Lib.hid (limX_error hle)
    clear hle
    unfold panE errAt
    go_wp2_with fail
    exact ⟨rfl, B2.out, .inr ⟨0, ((bind_ok H1.out).trans ((bind_ok H2.out).trans ((bind_ok H3.out).trans (bind_error HA.out))) : _), by omega, rfl⟩⟩
  have H4 := Lib.hid (limX_ok hle)
  clear hle
  go_wp2_with (refine wpList_store (.tmp 1) (.tmp 16) 23 rfl rfl w.heap.size 0 _ _ #[.int .i64 (m.1 : Int), .int .i64 (m.2 : Int)] rfl rfl N2.out (by kernel_rfl) (by simp [Value.oneCell']) (by simp) ?_)
  intro w7 hn7 ko7
  have h7 : Blk w7 w.heap.size 23 #[.int .i64 (m.1 : Int), .int .i64 (m.2 : Int)] := hn7
  have q0 := (h7.cell 0).trans rfl
  have q1 := (h7.cell 1).trans rfl
  go_wp2_with fail
  refine bodyPost_ret (v := .agg #[.int .i64 (m.1 : Int), .int .i64 (m.2 : Int)]) (by simp [results, Tryd.results38, go_sem, q0, q1]) rfl ?_
  exact ⟨B2.out.trans (ko7.below (Nat.le_refl _)), .inl ⟨m, (bind_ok H1.out).trans ((bind_ok H2.out).trans ((bind_ok H3.out).trans (bind_ok H4.out))), rfl⟩⟩
theorem toPart1_any (s : List UInt8) (hs : s.length ≤ 1000000) (b : Nat) (w : World) (E : Nat → Addr) (he : Errs w E) (hb : Blk w b 9 #[.string (bs s)]) :
    Calls Tryd.prog 44 #[.pointer (some ⟨b, 0, none⟩)] w (ExR E (toPartT s) (fun p => .agg #[.int .i64 (p.1 : Int), .int .i64 (p.2 : Int)]) w) := by
  have hb0 := below_alloc1 w (.cells #[.int .i64 0, .int .i64 0] 24)
  have c0 := ((hb.alloc (.cells #[.int .i64 0, .int .i64 0] 24)).cell 0).trans rfl
  have HE := Lib.hid he
  have B0 := Lib.hid hb0
  have N0 := Lib.hid (Blk.new w 24 #[.int .i64 0, .int .i64 0])
  clear hb he hb0
  go_enter Tryd.func44, Tryd.ntmps44
  go_wp2_with fail
  generalize w.alloc (.cells #[.int .i64 0, .int .i64 0] 24) = w0 at *
  refine (after_any 112 s w0 E (HE.out.below B0.out)).mono ?_
  rintro e w1 ⟨hb, ⟨t, ha, rfl⟩ | ⟨n, ha, hn, rfl⟩⟩
  case inr =>
    have HB := Lib.hid (B0.out.trans (hb.mono B0.out.size))
    have HA := Lib.hid ha
    have HN := Lib.hid hn
    clear hb ha hn
    unfold panE errAt
    go_wp2_with fail
    exact ⟨rfl, HB.out, .inr ⟨n, (bind_error HA.out : _), HN.out, rfl⟩⟩
  have B1 := Lib.hid (B0.out.trans (hb.mono B0.out.size))
  have N1 := Lib.hid (N0.out.below hb N0.out.lt)
  have H1 := Lib.hid ha
  have hl := afterT_len ha
  clear hb ha c0
  go_wp2_with fail
  refine (two_any 46 t (by omega) w1 E (HE.out.below B1.out)).mono ?_
  rintro e w2 ⟨hb, ⟨m, ha, rfl⟩ | ⟨n, ha, hn, rfl⟩⟩
  case inr =>
    have HB := Lib.hid (B1.out.trans (hb.mono B1.out.size))
    have HA := Lib.hid ha
    have HN := Lib.hid hn
    clear hb ha hn
    unfold panE errAt
    go_wp2_with fail
    exact ⟨rfl, HB.out, .inr ⟨n, ((bind_ok H1.out).trans (bind_error HA.out) : _), HN.out, rfl⟩⟩
  have B2 := Lib.hid (B1.out.trans (hb.mono B1.out.size))
  have N2 := Lib.hid (N1.out.below hb N1.out.lt)
  have H2 := Lib.hid ha
  clear hb ha hl
  go_wp2_with fail
  refine (upTo_any m.1 3 w2 E (HE.out.below B2.out)).mono ?_
  rintro e w9 ⟨rfl, ⟨hle, rfl⟩ | ⟨hle, rfl⟩⟩
  case inr =>
    have HA := Lib.hid (limX_error hle)
    clear hle
    unfold panE errAt
    go_wp2_with fail
    exact ⟨rfl, B2.out, .inr ⟨0, ((bind_ok H1.out).trans ((bind_ok H2.out).trans (bind_error HA.out)) : _), by omega, rfl⟩⟩
  have H3 := Lib.hid (limX_ok hle)
  clear hle
  go_wp2_with fail
  refine (upTo_any m.2 7 w2 E (HE.out.below B2.out)).mono ?_
  rintro e w9 ⟨rfl, ⟨hle, rfl⟩ | ⟨hle, rfl⟩⟩
  case inr =>
    have HA := Lib.hid (limX_error hle)
    clear hle
    unfold panE errAt
    go_wp2_with fail
    exact ⟨rfl, B2.out, .inr ⟨0, ((bind_ok H1.out).trans ((bind_ok H2.out).trans ((bind_ok H3.out).trans (bind_error HA.out))) : _), by omega, rfl⟩⟩
  have H4 := Lib.hid (limX_ok hle)
  clear hle
  go_wp2_with (refine wpList_store (.tmp 1) (.tmp 16) 24 rfl rfl w.heap.size 0 _ _ #[.int .i64 (m.1 : Int), .int .i64 (m.2 : Int)] rfl rfl N2.out (by kernel_rfl) (by simp [Value.oneCell']) (by simp) ?_)
  intro w7 hn7 ko7
  have h7 : Blk w7 w.heap.size 24 #[.int .i64 (m.1 : Int), .int .i64 (m.2 : Int)] := hn7
  have q0 := (h7.cell 0).trans rfl
  have q1 := (h7.cell 1).trans rfl
  go_wp2_with fail
  refine bodyPost_ret (v := .agg #[.int .i64 (m.1 : Int), .int .i64 (m.2 : Int)]) (by simp [results, Tryd.results44, go_sem, q0, q1]) rfl ?_
  exact ⟨B2.out.trans (ko7.below (Nat.le_refl _)), .inl ⟨m, (bind_ok H1.out).trans ((bind_ok H2.out).trans ((bind_ok H3.out).trans (bind_ok H4.out))), rfl⟩⟩
end Go.Proofs.YtehdbiilbbbbpaaDoor
