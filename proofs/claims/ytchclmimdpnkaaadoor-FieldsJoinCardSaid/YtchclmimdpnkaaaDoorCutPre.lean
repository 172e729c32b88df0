/-
  CutPre: small laws for FieldsCut's walk.
-/
import Derived.Test.YtchclmimdpnkaaaDoorBig
namespace Go.Proofs.YtchclmimdpnkaaaDoor
open Go.RowKit

/-- an int as an unsigned number -/
def u64n (x : Int) : Nat := (x % 18446744073709551616).toNat
theorem u64n_lt (x : Int) : u64n x < 18446744073709551616 := by unfold u64n; omega
theorem u64_conv (x : Int) (w : World) : (convert 3 61 (.int .i64 x)).run Tryd.prog w = .ok (.int .u64 (u64n x : Int)) w := by
  have e : (convert 3 61 (.int .i64 x)).run Tryd.prog w = .ok (.int .u64 (IntKind.u64.wrap x)) w := by
    simp [convert, run_underlying Tryd.underlying3, run_underlying Tryd.underlying61, Conv.intToInt]
  rw [e]
  have : IntKind.u64.wrap x = (u64n x : Int) := by
    unfold u64n
    simp only [IntKind.wrap, IntKind.bits, IntKind.signed]
    simp
    omega
  rw [this]
theorem lastOf_last (fs : List (Int × List UInt8)) (h : 0 < fs.length) : lastOf 0 fs = (fs[fs.length - 1]'(by omega)).1 := by
  have := lastOf_take fs (fs.length - 1) (by omega)
  rwa [show fs.length - 1 + 1 = fs.length by omega, List.take_length] at this
theorem joinE_cases (fs : List (Int × List UInt8)) : (rightRow fs = true ∧ joinE fs = 0 ∧ joinR fs = joinL fs) ∨ (joinE fs = 4) := by
  unfold joinE joinR
  cases rightRow fs <;> simp
/-- a row behind an owned row, as fields -/
theorem FldL.both {w : World} {B : Nat} {v : Value} {a b : List (Int × List UInt8)} {us us' : List Value} (ha : us.length = a.length) (hb : us'.length = b.length) (ho : w.ownsRow B 60 2 v (a.length + b.length) (fcells a us ++ fcells b us'))
    (h1 : ∀ (i : Nat) (f : Int × List UInt8), a[i]? = some f → ∃ u, us[i]? = some u ∧ Byt w u f.2) (h2 : ∀ (i : Nat) (f : Int × List UInt8), b[i]? = some f → ∃ u, us'[i]? = some u ∧ Byt w u f.2) : FldL w v (a ++ b) := by
  obtain ⟨p, cap, hv, k1, k2, k3⟩ := owns_rd ho
  refine ⟨p, cap, us ++ us', by rw [List.length_append]; exact hv, by rw [List.length_append]; exact k1, k2, by simp [ha, hb], by rw [fcells_app _ _ _ _ ha]; exact k3, fun i f hf => ?_⟩
  by_cases hi : i < a.length
  · rw [List.getElem?_append_left hi] at hf
    obtain ⟨u, hu, h⟩ := h1 i f hf
    exact ⟨u, by rw [List.getElem?_append_left (by omega)]; exact hu, h⟩
  · rw [List.getElem?_append_right (by omega)] at hf
    obtain ⟨u, hu, h⟩ := h2 _ f hf
    exact ⟨u, by rw [List.getElem?_append_right (by omega), ha]; exact hu, h⟩

theorem errV_one (E : Nat → Addr) (n : Nat) : errV E (n + 1) = .iface 100 (.pointer (some (E n))) := rfl
theorem fcells_len : ∀ (fs : List (Int × List UInt8)) (us : List Value), us.length = fs.length → (fcells fs us).length = fs.length * 2
  | [], [], _ => rfl
  | [], _ :: _, h => by simp at h
  | _ :: _, [], h => by simp at h
  | f :: fs, u :: us, h => by
    have := fcells_len fs us (by simpa using h)
    simp only [fcells, List.length_cons]
    omega
theorem fcells_one : ∀ (fs : List (Int × List UInt8)) (us : List Value) (w : World), us.length = fs.length →
    (∀ (i : Nat) (f : Int × List UInt8), fs[i]? = some f → ∃ u, us[i]? = some u ∧ Byt w u f.2) → ∀ x ∈ fcells fs us, x.oneCell' = true
  | [], [], _, _, _ => by simp [fcells]
  | [], _ :: _, _, h, _ => by simp at h
  | _ :: _, [], _, h, _ => by simp at h
  | f :: fs, u :: us, w, h, hk => by
    intro x hx
    simp only [fcells, List.mem_cons] at hx
    rcases hx with rfl | rfl | hx
    · rfl
    · obtain ⟨u', hu, hb⟩ := hk 0 f rfl
      simp only [List.getElem?_cons_zero, Option.some.injEq] at hu
      subst hu
      obtain ⟨_, _, rfl, _⟩ := hb
      rfl
    · exact fcells_one fs us w (by simpa using h) (fun i f' hf => by
        obtain ⟨u', hu, hb⟩ := hk (i + 1) f' (by simpa using hf)
        exact ⟨u', by simpa using hu, hb⟩) x hx
theorem byt_take' {w : World} {p : Option Addr} {n cap : Nat} {l : List UInt8} (h : Byt w (.slice p n cap) l) (k : Nat) (hk : k ≤ n) : Byt w (.slice p k cap) (l.take k) := by
  obtain ⟨_, _, e, _⟩ := id h
  cases e
  exact byt_take h k hk
theorem last_k (x : Int) (nx : Nat) (h0 : 0 < nx) (h1 : nx ≤ 4000) : ∃ k : Nat, k < nx ∧ wrap64 ((u64n x : Int) % (nx : Int)) = (k : Int) := by
  have hk : u64n x % nx < nx := Nat.mod_lt _ h0
  refine ⟨u64n x % nx, hk, ?_⟩
  rw [show ((u64n x : Int) % (nx : Int)) = ((u64n x % nx : Nat) : Int) by simp]
  generalize u64n x % nx = k at *
  unfold wrap64
  omega
end Go.Proofs.YtchclmimdpnkaaaDoor
