/-
  The walks of slices.Clone, slices.DeleteFunc at Helpers' closure.
-/
import Derived.Test.YtnapboojfhojjaaRndB
import Derived.Lib.SliceRun
namespace Go.Proofs.Ytnapboojfhojjaa
open Go.RowKit

set_option maxHeartbeats 1000000 in
theorem del_is (p : Nat) (x n : Int) (b : Bool) (w : World) (hp : w.cell? ⟨p, 0, none⟩ = some (.int .i64 x)) (hb : (n == x) = b) :
    Calls Try.prog 30 #[.int .i64 n, .pointer (some ⟨p, 0, none⟩)] w fun e w' => e = .returned (.bool b) ∧ w = w' := by
  go_enter Try.func30, Try.ntmps30
  go_wp2
  go_ret
  exact ⟨by simp [hb], rfl⟩

def FirstIs (x : Int) (L : List Int) (i : Int) : Prop := (i = -1 ∧ x ∉ L) ∨ ∃ k : Nat, i = k ∧ L[k]? = some x ∧ x ∉ L.take k

theorem not_mem_take' {v x : Int} {L : List Int} {k : Nat} (hx : L[k]? = some x) (h : v ∉ L.take k) (hv : v ≠ x) : v ∉ L.take (k + 1) := by
  rw [List.take_add_one, hx]
  simp
  exact ⟨h, hv⟩

set_option maxHeartbeats 2000000 in
theorem indexdel_any (p : Nat) (x : Int) (a : Option Addr) (c : Nat) (L : List Int) (w : World) (hp : w.cell? ⟨p, 0, none⟩ = some (.int .i64 x)) (hr : RdInts .i64 w a L) (hl : L.length ≤ 9223372036854775807) :
    Calls Try.prog 21 #[.slice a L.length c, .func (.func 30) #[] #[.pointer (some ⟨p, 0, none⟩)]] w fun e w' => (∃ i : Int, e = .returned (.int .i64 i) ∧ FirstIs x L i) ∧ w = w' := by
  have HR := Lib.hid hr
  have HP := Lib.hid hp
  clear hr hp
  go_enter Try.func21, Try.ntmps21
  go_wp2_with fail
  go_loopw [8] (fun u wr => ∃ k : Nat, u = .int .i64 k ∧ k ≤ L.length ∧ x ∉ L.take k ∧ wr = w) (fun u _ => L.length - (intOf u).toNat)
  case atStart => exact ⟨0, rfl, Nat.zero_le _, by simp, rfl⟩
  case round =>
    obtain ⟨k, rfl, hk, hno, rfl⟩ := hrel
    have HNO := Lib.hid hno
    clear hno
    by_cases hlt : (k : Int) < L.length
    · have hlt' : k < L.length := by omega
      obtain ⟨y, hy⟩ : ∃ y, L[k]? = some y := ⟨_, List.getElem?_eq_getElem hlt'⟩
      obtain ⟨ad, rfl, _, hcx⟩ := HR.out (by intro h; rw [h] at hlt'; simp at hlt')
      have cx := hcx k y hy
      have HY := Lib.hid hy
      clear hcx hy
      by_cases hv : x = y
      · have HE := Lib.hid (show (y == x) = true by simp [hv])
        have HV := Lib.hid hv
        clear hv
        go_wp2_with fail
        refine (del_is p x y true _ HP.out HE.out).mono ?_
        rintro e w1 ⟨rfl, rfl⟩
        go_wp2_with fail
        go_ret
        exact ⟨⟨k, rfl, .inr ⟨k, rfl, by rw [HY.out, HV.out], HNO.out⟩⟩, rfl⟩
      · have HE := Lib.hid (show (y == x) = false by simp; exact fun e => hv e.symm)
        have HV := Lib.hid (not_mem_take' HY.out HNO.out hv)
        clear hv
        go_wp2_with fail
        refine (del_is p x y false _ HP.out HE.out).mono ?_
        rintro e w1 ⟨rfl, rfl⟩
        go_wp2_with fail
        go_roundw
        case rel => exact ⟨k + 1, by go_num, by omega, HV.out, by trivial⟩
        case measure => simp [intOf]; omega
    · obtain rfl : k = L.length := by omega
      go_wp2_with fail
      go_ret
      exact ⟨⟨-1, rfl, .inl ⟨rfl, by rw [List.take_length] at HNO; exact HNO.out⟩⟩, rfl⟩

def ClonePost (w : World) (xs : List Int) (e : Ending) (w' : World) : Prop := ∃ v, e = .returned v ∧ Owned .i64 3 w' w.heap.size v xs ∧ Mod [] w w'

set_option maxHeartbeats 2000000 in
theorem clone_any (a : Option Addr) (c : Nat) (xs : List Int) (w : World) (hr : RdInts .i64 w a xs) (hnc : a = none → c = 0) (hl : xs.length ≤ 1000000) :
    Calls Try.prog 29 #[.slice a xs.length c] w (ClonePost w xs) := by
  have HR := Lib.hid hr
  have NC := Lib.hid hnc
  have heq := fun w => Lib.run_eql_slice_nil (P := Try.prog) w 26 3 a xs.length c 0 0 Try.underlying26
  clear hr hnc
  cases a with
  | none =>
    have hx : xs = [] := by
      by_cases h : xs = []
      · exact h
      · obtain ⟨ad, e, _⟩ := HR.out h
        cases e
    subst hx
    simp at heq
    go_enter Try.func29, Try.ntmps29
    go_wp2_with fail
    go_ret
    exact ⟨_, rfl, Owned.nil _ _ _ _, Mod.refl _ _⟩
  | some ad =>
    simp at heq
    go_enter Try.func29, Try.ntmps29
    go_wp2_with (at_builtin; with_reducible refine wpList_append_rd rfl (.tmp 5) (.tmp 6) 26 rfl w.heap.size 3 .i64 8 Try.underlying26 Try.info_int (.slice (some ⟨w.heap.size, 0, none⟩) 0 0) [] rfl ?o1 (some ad) c xs rfl ?o2 ?o3 ?o4 ?o5 ?o6 ?o7)
    case o1 => exact Owned.empty _ (heap_new _ _) (Nat.le_refl _)
    case o2 => exact HR.out.alloc _
    case o3 => exact fun h => (by cases h)
    case o4 => simp [maxLen]; omega
    case o5 => simp; omega
    case o6 => simp
    case o7 =>
      intro v' w2 hO2 hgr _
      have HO2 := Lib.hid hO2
      have HM2 := Lib.hid (grown_ge ((Mod.refl [] w).alloc _) hgr (fun b hb => by simp [Value.ownBlock] at hb; omega))
      clear hO2 hgr
      go_wp2_with fail
      go_ret
      exact ⟨_, rfl, by simpa using HO2.out, HM2.out⟩

end Go.Proofs.Ytnapboojfhojjaa
