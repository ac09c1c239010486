/-
  The walks of slices.Index, slices.Contains, slices.IndexFunc at round's closure; of round.Next.
-/
import Derived.Test.YtnapboojfhojjaaLotB
namespace Go.Proofs.Ytnapboojfhojjaa
open Go.RowKit

def shufOut (xs ls : List Int) : List Int := (shufLoop (xs.length - 1) xs ls).1
def shufLots (xs ls : List Int) : List Int := (shufLoop (xs.length - 1) xs ls).2
theorem shufLoop_length : ∀ (i : Nat) (out ls : List Int), (shufLoop i out ls).1.length = out.length
  | 0, _, _ => rfl
  | i + 1, out, ls => by rw [shufLoop, shufLoop_length i]; simp [swapAt]
theorem shufOut_length (xs ls : List Int) : (shufOut xs ls).length = xs.length := shufLoop_length _ _ _

theorem not_mem_take {v x : Int} {L : List Int} {k : Nat} (hx : L[k]? = some x) (h : v ∉ L.take k) (hv : v ≠ x) : v ∉ L.take (k + 1) := by
  rw [List.take_add_one, hx]
  simp
  exact ⟨h, hv⟩

set_option maxHeartbeats 2000000 in
theorem index_any (a : Option Addr) (c : Nat) (L : List Int) (v : Int) (w : World) (hr : RdInts .i64 w a L) (hl : L.length ≤ 9223372036854775807) :
    Calls Try.prog 34 #[.slice a L.length c, .int .i64 v] w fun e w' => (∃ i : Int, e = .returned (.int .i64 i) ∧ (0 ≤ i ↔ v ∈ L)) ∧ w = w' := by
  have HR := Lib.hid hr
  clear hr
  go_enter Try.func34, Try.ntmps34
  go_wp2_with fail
  go_loopw [8] (fun u wr => ∃ k : Nat, u = .int .i64 k ∧ k ≤ L.length ∧ v ∉ L.take k ∧ wr = w) (fun u _ => L.length - (intOf u).toNat)
  case atStart => exact ⟨0, rfl, Nat.zero_le _, by simp, rfl⟩
  case round =>
    obtain ⟨k, rfl, hk, hno, rfl⟩ := hrel
    have HNO := Lib.hid hno
    clear hno
    by_cases hlt : (k : Int) < L.length
    · have hlt' : k < L.length := by omega
      obtain ⟨x, hx⟩ : ∃ x, L[k]? = some x := ⟨_, List.getElem?_eq_getElem hlt'⟩
      obtain ⟨ad, rfl, _, hcx⟩ := HR.out (by intro h; rw [h] at hlt'; simp at hlt')
      have cx := hcx k x hx
      have HX := Lib.hid hx
      clear hcx hx
      by_cases hv : v = x
      · have hvq : (v == x) = true := by simpa using hv
        have HV := Lib.hid hv
        clear hv
        go_wp2_with fail
        go_ret
        exact ⟨⟨k, rfl, by rw [HV.out]; exact ⟨fun _ => List.mem_of_getElem? HX.out, fun _ => by omega⟩⟩, rfl⟩
      · have hvq : (v == x) = false := by simpa using hv
        have HV := Lib.hid (not_mem_take HX.out HNO.out hv)
        clear hv
        go_wp2_with fail
        go_roundw
        case rel => exact ⟨k + 1, by go_num, by omega, HV.out, by trivial⟩
        case measure => simp [intOf]; omega
    · obtain rfl : k = L.length := by omega
      go_wp2_with fail
      go_ret
      exact ⟨⟨-1, rfl, by rw [List.take_length] at HNO; exact ⟨fun h => absurd h (by omega), fun h => absurd h HNO.out⟩⟩, rfl⟩

set_option maxHeartbeats 1000000 in
theorem contains_any (a : Option Addr) (c : Nat) (L : List Int) (v : Int) (w : World) (hr : RdInts .i64 w a L) (hl : L.length ≤ 9223372036854775807) :
    Calls Try.prog 20 #[.slice a L.length c, .int .i64 v] w fun e w' => e = .returned (.bool (decide (v ∈ L))) ∧ w = w' := by
  have HR := Lib.hid hr
  clear hr
  go_enter Try.func20, Try.ntmps20
  go_wp2_with fail
  refine (index_any a c L v w HR.out hl).mono ?_
  rintro e w1 ⟨⟨i, rfl, hi⟩, rfl⟩
  have HI := Lib.hid hi
  clear hi
  by_cases h0 : 0 ≤ i
  · go_wp2_with fail
    go_ret
    exact ⟨by simp [HI.out.1 h0], rfl⟩
  · go_wp2_with fail
    go_ret
    have hv : v ∉ L := fun h => absurd (HI.out.2 h) (by omega)
    exact ⟨by rw [decide_eq_false hv]; first | rfl | (simp; omega), rfl⟩

set_option maxHeartbeats 1000000 in
theorem there_is (p : Nat) (a : Option Addr) (c : Nat) (xs : List Int) (n : Int) (b : Bool) (w : World) (hp : w.cell? ⟨p, 0, none⟩ = some (.slice a xs.length c)) (hr : RdInts .i64 w a xs) (hl : xs.length ≤ 9223372036854775807) (hb : decide (n ∈ xs) = b) :
    Calls Try.prog 19 #[.int .i64 n, .pointer (some ⟨p, 0, none⟩)] w fun e w' => e = .returned (.bool b) ∧ w = w' := by
  have HR := Lib.hid hr
  have HB := Lib.hid hb
  clear hr hb
  go_enter Try.func19, Try.ntmps19
  go_wp2_with fail
  refine (contains_any a c xs n w HR.out hl).mono ?_
  rintro e w1 ⟨rfl, rfl⟩
  rw [HB.out]
  go_wp2_with fail
  go_ret
  exact ⟨rfl, rfl⟩

def FirstIn (xs L : List Int) (i : Int) : Prop := (i = -1 ∧ ∀ y ∈ L, y ∉ xs) ∨ ∃ (k : Nat) (x : Int), i = k ∧ L[k]? = some x ∧ (∀ y ∈ L.take k, y ∉ xs) ∧ x ∈ xs

set_option maxHeartbeats 2000000 in
theorem indexfunc_any (p : Nat) (b : Option Addr) (cb : Nat) (xs : List Int) (a : Option Addr) (c : Nat) (L : List Int) (w : World) (hp : w.cell? ⟨p, 0, none⟩ = some (.slice b xs.length cb)) (hx : RdInts .i64 w b xs) (hxl : xs.length ≤ 9223372036854775807)
    (hr : RdInts .i64 w a L) (hl : L.length ≤ 9223372036854775807) :
    Calls Try.prog 21 #[.slice a L.length c, .func (.func 19) #[] #[.pointer (some ⟨p, 0, none⟩)]] w fun e w' => (∃ i : Int, e = .returned (.int .i64 i) ∧ FirstIn xs L i) ∧ w = w' := by
  have HR := Lib.hid hr
  have HXS := Lib.hid hx
  have HP := Lib.hid hp
  clear hr hx hp
  go_enter Try.func21, Try.ntmps21
  go_wp2_with fail
  go_loopw [8] (fun u wr => ∃ k : Nat, u = .int .i64 k ∧ k ≤ L.length ∧ (∀ y ∈ L.take k, y ∉ xs) ∧ wr = w) (fun u _ => L.length - (intOf u).toNat)
  case atStart => exact ⟨0, rfl, Nat.zero_le _, by simp, rfl⟩
  case round =>
    obtain ⟨k, rfl, hk, hno, rfl⟩ := hrel
    have HNO := Lib.hid hno
    clear hno
    by_cases hlt : (k : Int) < L.length
    · have hlt' : k < L.length := by omega
      obtain ⟨x, hx⟩ : ∃ x, L[k]? = some x := ⟨_, List.getElem?_eq_getElem hlt'⟩
      obtain ⟨ad, rfl, _, hcx⟩ := HR.out (by intro h; rw [h] at hlt'; simp at hlt')
      have cx := hcx k x hx
      have HX := Lib.hid hx
      clear hcx hx
      by_cases hv : x ∈ xs
      · have HV := Lib.hid hv
        clear hv
        go_wp2_with fail
        refine (there_is p b cb xs x true _ HP.out HXS.out hxl (by simp [HV.out])).mono ?_
        rintro e w1 ⟨rfl, rfl⟩
        go_wp2_with fail
        go_ret
        exact ⟨⟨k, rfl, .inr ⟨k, x, rfl, HX.out, HNO.out, HV.out⟩⟩, rfl⟩
      · have HV := Lib.hid hv
        have HV2 := Lib.hid (show ∀ y ∈ L.take (k + 1), y ∉ xs by
          intro y hy
          rw [List.take_add_one, HX.out] at hy
          simp at hy
          rcases hy with hy | rfl
          · exact HNO.out y hy
          · exact hv)
        clear hv
        go_wp2_with fail
        refine (there_is p b cb xs x false _ HP.out HXS.out hxl (by simp [HV.out])).mono ?_
        rintro e w1 ⟨rfl, rfl⟩
        go_wp2_with fail
        go_roundw
        case rel => exact ⟨k + 1, by go_num, by omega, HV2.out, by trivial⟩
        case measure => simp [intOf]; omega
    · obtain rfl : k = L.length := by omega
      go_wp2_with fail
      go_ret
      exact ⟨⟨-1, rfl, .inl ⟨rfl, by rw [List.take_length] at HNO; exact HNO.out⟩⟩, rfl⟩

/-- A Round at block r, what is left; its list lies in none of the blocks G. -/
def RoundAt (G : List Nat) (w : World) (r : Nat) (L : List Int) : Prop :=
  ∃ a c, w.cell? ⟨r, 0, none⟩ = some (.slice a L.length c) ∧ w.frozen? ⟨r, 0, none⟩ = false ∧ L.length ≤ c ∧ c ≤ maxLen ∧ (a = none → c = 0) ∧ r < w.heap.size ∧
    (L ≠ [] → ∃ g off, a = some ⟨g, off, none⟩ ∧ g ∉ G ∧ g < w.heap.size ∧ ∀ j x, L[j]? = some x → w.cell? ⟨g, off + j, none⟩ = some (.int .i64 x))

theorem RoundAt.mod {G S : List Nat} {w w' : World} {r : Nat} {L : List Int} (h : RoundAt G w r L) (hm : Mod S w w') (hr : r ∉ S) (hS : ∀ s ∈ S, s ∈ G) : RoundAt G w' r L := by
  obtain ⟨a, c, h1, h2, h3, h4, h5, h6, h7⟩ := h
  refine ⟨a, c, (hm.cell h6 hr).trans h1, (hm.frozen h6 hr).trans h2, h3, h4, h5, Nat.lt_of_lt_of_le h6 hm.size, fun hne => ?_⟩
  obtain ⟨g, off, ha, hg, hlt, hc⟩ := h7 hne
  exact ⟨g, off, ha, hg, Nat.lt_of_lt_of_le hlt hm.size, fun j x hj => (hm.cell hlt (fun hs => hg (hS _ hs))).trans (hc j x hj)⟩

theorem RoundAt.same {G : List Nat} {w w' : World} {r : Nat} {L : List Int} (h : RoundAt G w r L) (hm : Mod [] w w') : RoundAt G w' r L := h.mod hm (by simp) (by simp)

def rDrop (xs L : List Int) : List Int := L.dropWhile fun n => !decide (n ∈ xs)
theorem rDrop_none {xs L : List Int} (h : ∀ y ∈ L, y ∉ xs) : rDrop xs L = [] := by
  unfold rDrop
  induction L with
  | nil => rfl
  | cons y L ih =>
    rw [List.dropWhile_cons_of_pos (by simp [h y (by simp)])]
    exact ih fun z hz => h z (by simp [hz])
theorem rDrop_at {xs L : List Int} {k : Nat} {x : Int} (hx : L[k]? = some x) (h : ∀ y ∈ L.take k, y ∉ xs) (hin : x ∈ xs) : rDrop xs L = x :: L.drop (k + 1) := by
  induction k generalizing L with
  | zero =>
    cases L with
    | nil => simp at hx
    | cons y L =>
      obtain rfl : y = x := by simpa using hx
      simp [rDrop, hin]
  | succ k ih =>
    cases L with
    | nil => simp at hx
    | cons y L =>
      have hy : y ∉ xs := h y (by simp)
      have := ih (L := L) (by simpa using hx) (fun z hz => h z (by simp [hz]))
      simp only [rDrop] at this ⊢
      rw [List.dropWhile_cons_of_pos (by simp [hy]), this]
      simp

def rNext (L xs ls : List Int) : Int × List Int × List Int :=
  if rDrop xs L = [] then ((shufOut xs ls).headD 0, (shufOut xs ls).tail, shufLots xs ls) else ((rDrop xs L).headD 0, (rDrop xs L).tail, ls)

def RNextPost (G : List Nat) (w : World) (r d g : Nat) (N : Int × List Int × List Int) (e : Ending) (w' : World) : Prop :=
  e = .returned (.tuple #[.int .i64 N.1, .bool true]) ∧ RoundAt G w' r N.2.1 ∧ LotsAt w' d g N.2.2 ∧ Mod [d, r] w w'

theorem round_put {G : List Nat} {w : World} {r g off n c k : Nat} {L : List Int} {a : Option Addr} {u : Value} (h1 : w.cell? ⟨r, 0, none⟩ = some u) (h2 : w.frozen? ⟨r, 0, none⟩ = false) (hr : r ∈ G) (hg : g ∉ G) (hlt : g < w.heap.size) (hrl : r < w.heap.size)
    (hc : ∀ j x, L[j]? = some x → w.cell? ⟨g, off + j, none⟩ = some (.int .i64 x)) (hn : (L.drop k).length = n) (hcap : n ≤ c) (hm : c ≤ maxLen) (ha0 : a = none → c = 0) (ha : n ≠ 0 → a = some ⟨g, off + k, none⟩) :
    RoundAt G (w.setCell ⟨r, 0, none⟩ (.slice a n c)) r (L.drop k) := by
  refine ⟨a, c, by rw [hn]; exact cell_set_same h1, by rw [World.frozen?_setCell]; exact h2, by omega, hm, ha0, by simpa [World.setCell] using hrl, fun hne => ⟨g, off + k, ha (by rw [← hn]; intro e; exact hne (List.eq_nil_of_length_eq_zero e)), hg, by simpa [World.setCell] using hlt, fun j x hj => ?_⟩⟩
  rw [cell_set_far _ _ _ _ (by intro e; simp at e; rw [e] at hr; exact hg hr), Nat.add_assoc]
  exact hc (k + j) x (by rw [List.getElem?_drop] at hj; exact hj)

set_option maxHeartbeats 4000000 in
theorem rnext_any (G : List Nat) (r d g : Nat) (a : Option Addr) (c : Nat) (xs L ls : List Int) (w : World) (hR : RoundAt G w r L) (hL : LotsAt w d g ls) (hx : RdInts .i64 w a xs) (hne : xs ≠ []) (hlen : xs.length * 8 ≤ 140737488351232)
    (hrG : r ∈ G) (hGl : ∀ s ∈ G, s < w.heap.size) (hrd : r ≠ d) (hrg : r ≠ g) :
    Calls Try.prog 7 #[.pointer (some ⟨r, 0, none⟩), .slice a xs.length c, .pointer (some ⟨d, 0, none⟩)] w (RNextPost G w r d g (rNext L xs ls)) := by
  have hp : 0 < xs.length := List.length_pos_iff.2 hne
  have hnz : ((xs.length : Int) == 0) = false := by simp; omega
  obtain ⟨ra, rc, q1, q2, q3, q4, q5, q6, q7⟩ := hR
  have hrd' : RdInts .i64 w ra L := fun h0 => by
    obtain ⟨g, off, rfl, _, hlt, hc⟩ := q7 h0
    exact ⟨_, rfl, hlt, fun j x hj => by rw [add_lit]; exact hc j x hj⟩
  obtain ⟨n, hn⟩ : ∃ n, L.length = n := ⟨_, rfl⟩
  have hmf : ∀ fn first cap w, (Instr.makeFunc fn first cap).run Try.prog w = .ok (.func fn first cap) w := fun _ _ _ _ => rfl
  have HX := Lib.hid hx
  have HRD := Lib.hid hrd'
  have HL := Lib.hid hL
  have HLEN := Lib.hid hlen
  have HGL := Lib.hid hGl
  have Q7 := Lib.hid q7
  have Q5 := Lib.hid q5
  have Q4 := Lib.hid q4
  have HN := Lib.hid hn
  rw [hn] at q1 q3
  clear hx hL hlen hGl hrd' q7 q5 q4 hn hne
  go_enter Try.func7, Try.ntmps7
  have hidx := indexfunc_any w.heap.size a c xs ra rc L (w.alloc (.cells #[.slice a xs.length c] 26)) (cell_in (heap_new _ _) rfl) (HX.out.alloc _) (by have := HLEN.out; omega) (HRD.out.alloc _) (by have := HN.out; have := Q4.out; simp only [maxLen] at this; omega)
  rw [HN.out] at hidx
  have HIDX := Lib.hid hidx
  clear hidx
  go_wp2_with fail
  refine HIDX.out.mono ?_
  rintro e w1 ⟨⟨i, rfl, hi⟩, rfl⟩
  rcases hi with ⟨rfl, hno⟩ | ⟨k, x, rfl, hk, htk, hin⟩
  · have HRN := Lib.hid (show rNext L xs ls = ((shufOut xs ls).headD 0, (shufOut xs ls).tail, shufLots xs ls) by unfold rNext; rw [rDrop_none hno, if_pos rfl])
    clear hno
    go_wp2_with fail
    refine (shuffle_any d g a c xs ls _ (HX.out.alloc _) HLEN.out (HL.out.mod ((Mod.refl [] _).alloc _) (by simp) (by simp))).mono ?_
    rintro e w2 ⟨g', rfl, hg', hO, hLo, hM⟩
    have hO' : OwnInts w2 g' (shufOut xs ls) := hO
    have hlen := shufOut_length xs ls
    obtain ⟨x, hx⟩ : ∃ x, (shufOut xs ls).getD 0 0 = x := ⟨_, rfl⟩
    have hcx := hO'.cell (j := 0) (by omega)
    rw [hx] at hcx
    obtain ⟨m, hm⟩ : ∃ m, xs.length = m := ⟨_, rfl⟩
    have hxl := HLEN.out
    rw [hm] at hxl hp hlen hnz
    simp at hg'
    have r1 : w2.cell? ⟨r, 0, none⟩ = some (.slice ra n rc) := (hM.cell (by simp; omega) (by simpa using hrd)).trans ((((Mod.refl [] w).alloc _).cell q6 (by simp)).trans q1)
    have r2 : w2.frozen? ⟨r, 0, none⟩ = false := (hM.frozen (by simp; omega) (by simpa using hrd)).trans ((((Mod.refl [] w).alloc _).frozen q6 (by simp)).trans q2)
    have hset : (w2.setCell ⟨r, 0, none⟩ (.slice (some ⟨g', 0, none⟩) m m)).cell? ⟨g', 0, none⟩ = some (.int .i64 x) := (cell_set_far _ _ _ _ (by simp; omega)).trans hcx
    have hset0 := cell_set_same (v := .slice (some ⟨g', 0, none⟩) m m) r1
    have HX0 := Lib.hid hx
    have HO := Lib.hid hO'
    have HLO := Lib.hid (show LotsAt w2 d g (shufLots xs ls) from hLo)
    have HM := Lib.hid (((Mod.refl [d] w).alloc _).trans hM)
    have HLN := Lib.hid hlen
    have HG := Lib.hid hg'
    rw [hm]
    clear hx hO hO' hLo hM hlen hg' hcx hm
    by_cases hm1 : m = 1
    · subst hm1
      go_wp2_with fail
      go_ret2
      have hsx : (shufOut xs ls).headD 0 = x := by rw [← HX0.out]; cases shufOut xs ls <;> rfl
      rw [HRN.out, hsx]
      have hMs : Mod [d, r] w ((w2.setCell ⟨r, 0, none⟩ (.slice (some ⟨g', 0, none⟩) 1 1)).setCell ⟨r, 0, none⟩ (.slice (some ⟨g', 0, none⟩) 0 0)) :=
        ((HM.out.mono (fun k _ hk => by simp at hk; simp [hk])).setCell (.inl (by simp)) _).setCell (.inl (by simp)) _
      refine ⟨rfl, ?_, HLO.out.mod (((Mod.refl [r] w2).setCell (.inl (by simp)) _).setCell (.inl (by simp)) _) (by simpa using Ne.symm hrd) (by simpa using Ne.symm hrg), hMs⟩
      rw [← List.drop_one]
      exact round_put (g := g') (off := 0) (k := 1) (L := shufOut xs ls) hset0 (by rw [World.frozen?_setCell]; exact r2) hrG (fun h => by have := HGL.out _ h; have := HG.out; omega) (by have := (Array.getElem?_eq_some_iff.1 HO.out).1; simpa [World.setCell] using this) (by have := HM.out.size; simp [World.setCell]; omega)
        (fun j y hj => (cell_set_far _ _ _ _ (by have := HG.out; simp; omega)).trans (by rw [Nat.zero_add]; have hjl := (List.getElem?_eq_some_iff.1 hj).1; rw [HO.out.cell hjl]; simp [List.getD, hj])) (by rw [List.length_drop, HLN.out]) (Nat.zero_le _) (by simp [maxLen]) (by simp) (fun h => absurd rfl h)
    · go_wp2_with fail
      go_ret2
      have hsx : (shufOut xs ls).headD 0 = x := by rw [← HX0.out]; cases shufOut xs ls <;> rfl
      rw [HRN.out, hsx]
      have hMs : Mod [d, r] w ((w2.setCell ⟨r, 0, none⟩ (.slice (some ⟨g', 0, none⟩) m m)).setCell ⟨r, 0, none⟩ (.slice (some ⟨g', 1, none⟩) (m - 1) (m - 1))) :=
        ((HM.out.mono (fun k _ hk => by simp at hk; simp [hk])).setCell (.inl (by simp)) _).setCell (.inl (by simp)) _
      refine ⟨rfl, ?_, HLO.out.mod (((Mod.refl [r] w2).setCell (.inl (by simp)) _).setCell (.inl (by simp)) _) (by simpa using Ne.symm hrd) (by simpa using Ne.symm hrg), hMs⟩
      rw [← List.drop_one]
      exact round_put (g := g') (off := 0) (k := 1) (L := shufOut xs ls) hset0 (by rw [World.frozen?_setCell]; exact r2) hrG (fun h => by have := HGL.out _ h; have := HG.out; omega) (by have := (Array.getElem?_eq_some_iff.1 HO.out).1; simpa [World.setCell] using this) (by have := HM.out.size; simp [World.setCell]; omega)
        (fun j y hj => (cell_set_far _ _ _ _ (by have := HG.out; simp; omega)).trans (by rw [Nat.zero_add]; have hjl := (List.getElem?_eq_some_iff.1 hj).1; rw [HO.out.cell hjl]; simp [List.getD, hj])) (by rw [List.length_drop, HLN.out]) (Nat.le_refl _) (by simp [maxLen]; omega) (by simp) (fun _ => by rw [Nat.zero_add])
  · have hL0 : L ≠ [] := by intro h; rw [h] at hk; simp at hk
    obtain ⟨g2, off, rfl, hg2, hlt2, hc2⟩ := Q7.out hL0
    have hkn : k < n := by rw [← HN.out]; exact (List.getElem?_eq_some_iff.1 hk).1
    have cx : w.cell? ⟨g2, off + k, none⟩ = some (.int .i64 x) := hc2 k x hk
    have hrc : rc ≤ 9223372036854775807 := by have := Q4.out; simpa [maxLen] using this
    have hkw : wrap64 ((k : Int) + 1) = (k : Int) + 1 := wrap_small (by omega) (by omega)
    have HRN := Lib.hid (show rNext L xs ls = (x, L.drop (k + 1), ls) by unfold rNext; rw [rDrop_at hk htk hin]; simp)
    have HC2 := Lib.hid hc2
    have HD := Lib.hid (show (L.drop (k + 1)).length = n - (k + 1) by rw [List.length_drop, HN.out])
    have HG2 := Lib.hid hg2
    clear hk htk hin hc2 hL0 hg2
    by_cases hcap : rc = k + 1
    · subst hcap
      obtain rfl : n = k + 1 := by omega
      go_wp2_with fail
      go_ret2
      rw [HRN.out]
      refine ⟨rfl, RoundAt.same ?_ ((Mod.refl [] _).alloc _), HL.out.mod (((Mod.refl [r] w).setCell (.inl (by simp)) _).alloc _) (by simpa using Ne.symm hrd) (by simpa using Ne.symm hrg), ((Mod.refl _ w).setCell (.inl (by simp)) _).alloc _⟩
      exact round_put q1 q2 hrG HG2.out hlt2 q6 HC2.out (by rw [HD.out]; simp) (Nat.zero_le _) (by simp [maxLen]) (by simp) (fun h => absurd rfl h)
    · go_wp2_with fail
      go_ret2
      rw [HRN.out]
      refine ⟨rfl, RoundAt.same ?_ ((Mod.refl [] _).alloc _), HL.out.mod (((Mod.refl [r] w).setCell (.inl (by simp)) _).alloc _) (by simpa using Ne.symm hrd) (by simpa using Ne.symm hrg), ((Mod.refl _ w).setCell (.inl (by simp)) _).alloc _⟩
      exact round_put q1 q2 hrG HG2.out hlt2 q6 HC2.out HD.out (by omega) (by simp [maxLen]; omega) (by simp) (fun _ => rfl)

end Go.Proofs.Ytnapboojfhojjaa
