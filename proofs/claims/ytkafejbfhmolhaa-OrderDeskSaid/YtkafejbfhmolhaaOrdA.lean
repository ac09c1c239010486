/-
  The walk of conventiclelaw18.shown.
-/
import Derived.Test.YtkafejbfhmolhaaDeskB
namespace Go.Proofs.Ytkafejbfhmolhaa
open Go.RowKit

set_option maxRecDepth 100000 in
set_option maxHeartbeats 4000000 in
theorem shown18 (w : World) : Calls Try.prog 4 #[] w (TruePost w) := by
  go_enter Try.func4, Try.ntmps4
  go_wp2_with fail
  refine (newclerk_nil 0 _ (by decide) (by decide)).mono ?_
  rintro e w1 ⟨d, m, sz, rfl, hd, hm, hsz, hC, hM⟩
  have HC := Lib.hid hC
  have HM1 := Lib.hid hM
  have HD := Lib.hid (And.intro hd hm)
  clear hC hM hd hm
  go_wp2_with fail
  refine (number_any d m sz (max 1 0) (fun _ => none) 3 1 ⟨#[]⟩ _ HC.out (by omega) (by decide) (by decide) (by decide) (by decide)).mono ?_
  rintro e w2 ⟨he, hM2, _, _, _⟩
  have he2 : e = .returned (.tuple #[.int .u64 1, .int .i64 0]) := he
  clear he
  subst he2
  have HM2 := Lib.hid (HM1.out.step hM2 (by have := HD.out; simp; omega))
  clear hM2
  go_wp2_with fail
  refine (newdesk_any 3 0 _ (by decide) (by decide) (by decide)).mono ?_
  rintro e w3 ⟨dd, rfl, hdd, hD, hM⟩
  have HDD := Lib.hid (show w.heap.size ≤ dd by have := HM2.out.size; omega)
  have HDk := Lib.hid hD
  have HM3 := Lib.hid (HM2.out.trans hM)
  clear hdd hD hM
  go_wp2_with fail
  refine (send_any dd 3 0 [] ⟨#[120]⟩ _ HDk.out (by decide)).mono ?_
  rintro e w4 ⟨he, hM, hD⟩
  have he2 : e = .returned (.tuple #[.agg #[.int .i64 3, .int .u64 1, .string ⟨#[120]⟩], .int .i64 0]) := he
  clear he
  subst he2
  have HD4 := Lib.hid (show DeskAt w4 dd 3 1 [(3, 1, ⟨#[120]⟩)] from hD)
  have HM4 := Lib.hid (HM3.out.step hM (by have := HDD.out; simp; omega))
  clear hM hD
  go_wp2_with fail
  refine (waits_any dd 3 1 [(3, 1, ⟨#[120]⟩)] 9 1 _ (HD4.out.mod ((Mod.refl [] _).alloc _) (by simp)) (by decide)).mono ?_
  rintro e w5 ⟨v, rfl, hO, hM⟩
  obtain ⟨a, c, rfl, _⟩ := hO.shape
  have HM5 := Lib.hid ((HM4.out.alloc _).trans hM)
  clear hO hM
  go_wp2_with fail
  go_ret
  exact ⟨rfl, HM5.out⟩

end Go.Proofs.Ytkafejbfhmolhaa
