/-
  What the three turns of TopChoice hear, one letter after the other.
-/
import Derived.Test.YtaaaiggbnkeblaaGreatDoorMChoT
import Derived.Test.YtaaaiggbnkeblaaGreatDoorMChoF
import Derived.Test.YtaaaiggbnkeblaaGreatDoorMChoJa
import Derived.Test.YtaaaiggbnkeblaaGreatDoorMChoJb
import Derived.Test.YtaaaiggbnkeblaaGreatDoorMChoJc
import Derived.Test.YtaaaiggbnkeblaaGreatDoorMChoK
import Derived.Test.YtaaaiggbnkeblaaGreatDoorMChoM
import Derived.Test.YtaaaiggbnkeblaaGreatDoorMChoO
namespace Go.Proofs.YtaaaiggbnkeblaaGreatDoor
set_option linter.unusedSimpArgs false
set_option linter.unusedVariables false
open Go.RowKit

def lP (k : Nat) : Let := ⟨4, 0, k, 0, 4, 7, 65, 0, 0, 0, 0⟩
def lR (k : Nat) (r : Int) : Let := ⟨5, k, 0, r, 4, 7, 65, 0, 0, 0, 0⟩
def lA (M C : Int) (k : Nat) : Let := ⟨6, 0, k, 0, 4, 7, 65, 0, 0, M, C⟩
def lK (k : Nat) : Let := ⟨7, k, 0, 0, 4, 7, 65, 0, 0, 0, 0⟩
def lD (M C : Int) (k : Nat) : Let := ⟨9, 0, k, 0, 4, 7, 0, 0, 5, M, C⟩

def sA (J r : Int) : TS := ⟨0, 0, 0, 0, 0, true, r, 65, 0, 7, J, 0, 0, false, 0, 0, 0, false, 0, 0, false⟩
def sB (J r : Int) : TS := ⟨65, 0, 0, 0, 0, true, r, 65, 0, 7, J, 1, r, false, 0, 0, 0, false, 0, 0, false⟩
def sC (J r f : Int) : TS := ⟨65, 0, 0, 0, 0, true, r, 65, 0, 7, J, 3, f, false, 0, 0, 0, false, 0, 0, false⟩
def sD (J r f M : Int) : TS := ⟨65, 65, M, f, 0, true, r, 65, 0, 7, J, 7, f, true, M, f, 1, false, 0, 0, false⟩
def sE (J r f M : Int) : TS := ⟨65, 65, M, f, 0, true, r, 65, 0, 7, J, 7, f, true, M, f, 3, true, M, f, true⟩
def sF (J r f M : Int) : TS := ⟨65, 65, M, f, 0, true, r, 65, 0, 7, J, 7, f, true, M, f, 7, true, M, f, true⟩
def pA (me : Nat) (r : Int) : TS := ⟨65, 0, 0, 0, me, true, r, 0, 0, 0, 0, 0, 0, false, 0, 0, 0, false, 0, 0, false⟩
def pB (me : Nat) (r M C : Int) : TS := ⟨65, 65, M, C, me, true, r, 0, 0, 0, 0, 0, 0, false, 0, 0, 0, false, 0, 0, false⟩
def pC (me : Nat) (r M C : Int) : TS := ⟨65, 65, M, C, me, true, r, 0, 0, 0, 0, 0, 0, false, 0, 0, 0, true, M, C, false⟩

theorem to_two (t : Nat) (s : TS) (l : Let) (hme : s.me = 0) : Gives1 t s s [(l.from_ 0 4 7).to_ 1, (l.from_ 0 4 7).to_ 2] 79 #[.pointer (some ⟨t, 0, none⟩), .agg l.v, .int .u64 7] := by
  have h := to_s t s l 7 6 [1, 2] (by rw [hme]; decide) (by rw [hme]; decide) bits_six (by decide) (by decide)
  rw [hme] at h
  exact h

theorem begin_all (t : Nat) (J r : Int) (hr : 0 ≤ r) : Gives t (TS.zero 0) (sB J r) [lP 1, lP 2] 0 7 #[.pointer (some ⟨t, 0, none⟩), .int .u64 7, .int .u64 J, .int .u64 r] := by
  have hp : Gives t { sA J r with top := 65 } (sB J r) [] 0 39 #[.pointer (some ⟨t, 0, none⟩), .agg #[.int .i64 5, .int .i64 0, .int .i64 0, .int .u64 r, .int .i64 0, .slice none 0 0, .int .u64 4, .int .u64 7, .int .u64 65, .int .u64 0, .int .u64 0, .int .u64 0, .int .u64 0, .slice none 0 0, .slice none 0 0, .float .f64 0]] :=
    promised_0 t { sA J r with top := 65 } (sB J r) [] 5 0 r 4 7 65 0 r rfl rfl rfl rfl rfl rfl (by show (if (0 : Int) < r then r else 0) = r; split <;> omega)
  have hh := hear_5 t { sA J r with top := 65 } (sB J r) [] 0 0 0 r 65 0 0 0 0 r rfl (by decide) (by decide) hp
  have ha := answer_self t { sA J r with top := 65 } (sB J r) [] ⟨5, 0, 0, r, 0, 0, 65, 0, 0, 0, 0⟩ 0 rfl hh
  have hs := settled_ok t { sA J r with top := 65 } (sB J r) [] ⟨5, 0, 0, r, 0, 0, 65, 0, 0, 0, 0⟩ 0 ha
  have hq := prepared_ok t (sA J r) (sB J r) [] (lP 0) rfl rfl ⟨rfl, rfl, rfl⟩ rfl hs
  have hh4 := hear_4 t (sA J r) (sB J r) [] 0 0 0 0 65 0 0 0 0 r rfl (by decide) (by decide) hq
  have ha4 := answer_self t (sA J r) (sB J r) [] ⟨4, 0, 0, 0, 0, 0, 65, 0, 0, 0, 0⟩ 0 rfl hh4
  have ht := tell_is t (sA J r) (sB J r) [lP 1, lP 2] 4 0 0 0 0 0 65 0 0 0 0 rfl ha4 (to_two t (sB J r) ⟨4, 0, 0, 0, 0, 0, 65, 0, 0, 0, 0⟩ rfl) (by decide) (by simp)
  exact begin_is t (sB J r) [lP 1, lP 2] J r ht

theorem prep_other (t me : Nat) (r : Int) (hme : me = 1 ∨ me = 2) : Gives t (TS.zero me) (pA me r) [lR me r] 0 9 #[.pointer (some ⟨t, 0, none⟩), .agg (lP me).v, .int .u64 r] := by
  have ha := answer_other t (pA me r) ⟨5, 0, 0, r, 0, 0, 65, 0, 0, 0, 0⟩ 0 (show 0 ≠ me by omega)
  have hs := settled_ok t (pA me r) (pA me r) [lR me r] ⟨5, 0, 0, r, 0, 0, 65, 0, 0, 0, 0⟩ 0 ha
  have hq := prepared_ok t { pA me r with top := 0 } (pA me r) [lR me r] (lP me) rfl rfl ⟨rfl, rfl, rfl⟩ rfl hs
  exact hear_4 t (TS.zero me) (pA me r) [lR me r] 0 me 0 0 65 0 0 0 0 r rfl (by omega) (by decide) hq

theorem promise1 (t : Nat) (J r0 r1 f : Int) (hf : (if r0 < r1 then r1 else r0) = f) : Gives t (sB J r0) (sC J r0 f) [] 0 9 #[.pointer (some ⟨t, 0, none⟩), .agg (lR 1 r1).v, .int .u64 r0] := by
  have hp := promised_1 t (sB J r0) (sC J r0 f) [] 5 0 r1 4 7 65 0 f rfl rfl rfl rfl rfl rfl hf
  exact hear_5 t (sB J r0) (sC J r0 f) [] 0 0 1 r1 65 0 0 0 0 r0 rfl (by decide) (by decide) hp

theorem acc_self (t : Nat) (J r0 f M : Int) : Gives1 t { sD J r0 f M with top := 65, old := 0, lm := 0, lc := 0, taken := 0 } (sD J r0 f M) [] 78 #[.pointer (some ⟨t, 0, none⟩), .int .i64 0, .agg #[.int .i64 6, .int .i64 0, .int .i64 0, .int .u64 0, .int .i64 0, .slice none 0 0, .int .u64 0, .int .u64 0, .int .u64 65, .int .u64 0, .int .u64 0, .int .u64 M, .int .u64 f, .slice none 0 0, .slice none 0 0, .float .f64 0]] := by
  have hk := took_wait t { sD J r0 f M with taken := 0 } (sD J r0 f M) [] 7 0 0 0 4 7 65 0 0 0 0 1 1 6 rfl rfl rfl (by decide) (show bits .or .u64 0 (2 ^ 0) = 1 by decide) rfl (by decide) (by decide) (by decide) (by decide) (by decide)
  have hh := hear_7 t { sD J r0 f M with taken := 0 } (sD J r0 f M) [] 0 0 0 0 65 0 0 0 0 r0 rfl (by decide) (by decide) hk
  have ha := answer_self t { sD J r0 f M with taken := 0 } (sD J r0 f M) [] ⟨7, 0, 0, 0, 0, 0, 65, 0, 0, 0, 0⟩ 0 rfl hh
  have hs := settled_ok t { sD J r0 f M with taken := 0 } (sD J r0 f M) [] ⟨7, 0, 0, 0, 0, 0, 65, 0, 0, 0, 0⟩ 0 ha
  have hq := accepted_ok t { sD J r0 f M with top := 65, old := 0, lm := 0, lc := 0, taken := 0 } (sD J r0 f M) [] (lA M f 0) rfl rfl (show 0 < 64 by decide) hs
  have hh6 := hear_6 t { sD J r0 f M with top := 65, old := 0, lm := 0, lc := 0, taken := 0 } (sD J r0 f M) [] 0 0 0 0 65 0 0 M f r0 rfl (by decide) (by decide) hq
  exact answer_self t { sD J r0 f M with top := 65, old := 0, lm := 0, lc := 0, taken := 0 } (sD J r0 f M) [] ⟨6, 0, 0, 0, 0, 0, 65, 0, 0, M, f⟩ 0 rfl hh6

theorem promise2 (t : Nat) (J r0 r2 f0 f M : Int) (hf : (if f0 < r2 then r2 else f0) = f) (hM : bits .or .u64 7 J = M) : Gives t (sC J r0 f0) (sD J r0 f M) [lA M f 1, lA M f 2] 0 9 #[.pointer (some ⟨t, 0, none⟩), .agg (lR 2 r2).v, .int .u64 r0] := by
  have ht := tell_is t { sD J r0 f M with top := 65, old := 0, lm := 0, lc := 0, taken := 0 } (sD J r0 f M) [lA M f 1, lA M f 2] 6 0 0 0 0 0 65 0 0 M f rfl (acc_self t J r0 f M) (to_two t (sD J r0 f M) ⟨6, 0, 0, 0, 0, 0, 65, 0, 0, M, f⟩ rfl) (by simp) (by simp)
  have hu := push_is t { sC J r0 f0 with heard := 7, far := f } (sD J r0 f M) [lA M f 1, lA M f 2] M rfl rfl rfl rfl rfl hM ht
  have hp := promised_2 t (sC J r0 f0) (sD J r0 f M) [lA M f 1, lA M f 2] 5 0 r2 4 7 65 0 f rfl rfl rfl rfl rfl rfl hf hu
  exact hear_5 t (sC J r0 f0) (sD J r0 f M) [lA M f 1, lA M f 2] 0 0 2 r2 65 0 0 0 0 r0 rfl (by decide) (by decide) hp

theorem acc_other (t me : Nat) (r M C : Int) (hme : me = 1 ∨ me = 2) : Gives t (pA me r) (pB me r M C) [lK me] 0 9 #[.pointer (some ⟨t, 0, none⟩), .agg (lA M C me).v, .int .u64 r] := by
  have ha := answer_other t (pB me r M C) ⟨7, 0, 0, 0, 0, 0, 65, 0, 0, 0, 0⟩ 0 (show 0 ≠ me by omega)
  have hs := settled_ok t (pB me r M C) (pB me r M C) [lK me] ⟨7, 0, 0, 0, 0, 0, 65, 0, 0, 0, 0⟩ 0 ha
  have hq := accepted_ok t (pA me r) (pB me r M C) [lK me] (lA M C me) rfl rfl (show 0 < 64 by decide) hs
  exact hear_6 t (pA me r) (pB me r M C) [lK me] 0 me 0 0 65 0 0 M C r rfl (by omega) (by decide) hq

theorem took1 (t : Nat) (J r0 f M : Int) (js : List Int) (hB : Bits J js) (hk : js.length ≤ 8) (hkb : ∀ x ∈ js, 3 ≤ x ∧ x < 64) (h1 : bits .andNot .u64 J 1 = J) (h2 : bits .andNot .u64 M 7 = J) :
    Gives t (sD J r0 f M) (sE J r0 f M) ([lD M f 1, lD M f 2] ++ js.map fun x : Int => lD M f x.toNat) 0 9 #[.pointer (some ⟨t, 0, none⟩), .agg (lK 1).v, .int .u64 r0] := by
  have hj := to_s t (sE J r0 f M) ⟨9, 0, 0, 0, 0, 0, 0, 0, 5, M, f⟩ J J js (show 0 < 64 by decide) h1 hB (by omega) (fun x hx => by have := hkb x hx; omega)
  have hd := decide_is t (sE J r0 f M) [lD M f 1, lD M f 2] (js.map fun x : Int => lD M f x.toNat) J h2 (to_two t (sE J r0 f M) ⟨9, 0, 0, 0, 0, 0, 0, 0, 5, M, f⟩ rfl) hj (by simp; omega) (by simp)
  have hk := took_done t (sD J r0 f M) (sE J r0 f M) ([lD M f 1, lD M f 2] ++ js.map fun x : Int => lD M f x.toNat) 7 1 0 0 4 7 65 0 0 0 0 3 3 4 rfl rfl rfl (by decide) (show bits .or .u64 1 (2 ^ 1) = 3 by decide) rfl (by decide) (by decide) (by decide) (by decide) (by decide) hd
  exact hear_7 t (sD J r0 f M) (sE J r0 f M) _ 0 0 1 0 65 0 0 0 0 r0 rfl (by decide) (by decide) hk

theorem took2 (t : Nat) (J r0 f M : Int) : Gives t (sE J r0 f M) (sF J r0 f M) [] 0 9 #[.pointer (some ⟨t, 0, none⟩), .agg (lK 2).v, .int .u64 r0] := by
  have hk := took_late t (sE J r0 f M) (sF J r0 f M) [] 7 2 0 0 4 7 65 0 0 0 0 7 0 0 rfl rfl rfl (by decide) (show bits .or .u64 3 (2 ^ 2) = 7 by decide) rfl
  exact hear_7 t (sE J r0 f M) (sF J r0 f M) _ 0 0 2 0 65 0 0 0 0 r0 rfl (by decide) (by decide) hk

theorem dec_other (t me : Nat) (r M C : Int) (hme : me = 1 ∨ me = 2) : Gives t (pB me r M C) (pC me r M C) [] 0 9 #[.pointer (some ⟨t, 0, none⟩), .agg (lD M C me).v, .int .u64 r] := by
  have hq := decided_new t (pB me r M C) 9 0 me 0 4 7 0 0 M C rfl
  exact hear_9 t (pB me r M C) (pC me r M C) [] 0 me 0 0 0 0 5 M C r rfl (by omega) (by decide) hq

end Go.Proofs.YtaaaiggbnkeblaaGreatDoor
