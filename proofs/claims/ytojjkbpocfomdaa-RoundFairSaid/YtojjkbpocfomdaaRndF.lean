/-
  Plain: a round is fair.
-/
import Derived.Test.YtojjkbpocfomdaaRndA
import Derived.Test.YtojjkbpocfomdaaRndP
import Derived.Test.YtojjkbpocfomdaaMaps
namespace Go.Proofs.Ytojjkbpocfomdaa

theorem rDrop_all {xs L : List Int} (h : ∀ x ∈ L, x ∈ xs) : rDrop xs L = L := by
  cases L with
  | nil => rfl
  | cons y L =>
    unfold rDrop
    rw [List.dropWhile_cons_of_neg (by simp [h y (by simp)])]
theorem shufOut_perm (xs ls : List Int) : (shufOut xs ls).Perm xs := List.perm_iff_count.2 fun x => shufOut_count xs ls x

theorem rNext_old {L l ls : List Int} (h : ∀ x ∈ L, x ∈ l) (hL : L ≠ []) : (rNext L l ls).1 :: (rNext L l ls).2.1 = L := by
  unfold rNext
  rw [rDrop_all h, if_neg hL]
  cases L with
  | nil => exact absurd rfl hL
  | cons y L => rfl
theorem rNext_new {l ls : List Int} (hl : l ≠ []) : (rNext [] l ls).1 :: (rNext [] l ls).2.1 = shufOut l ls := by
  unfold rNext
  rw [if_pos (show rDrop l [] = [] from rfl)]
  cases h : shufOut l ls with
  | nil =>
    have := shufOut_length l ls
    rw [h] at this
    exact absurd (List.eq_nil_of_length_eq_zero this.symm) hl
  | cons y L => rfl

/-- i have been asked: q rounds and p more, B = q n; L are left; f tells of each when it was asked last. -/
structure FairAt (l : List Int) (n i : Nat) (L : List Int) (f : Int → Option Int) (sz q p B : Nat) : Prop where
  eb : q * n = B
  ei : i = B + p
  lp : p < n
  l0 : p = 0 → L = []
  l1 : 0 < p → L.length = n - p
  nd : L.Nodup
  sub : ∀ x ∈ L, x ∈ l
  told : ∀ x ∈ l, 0 < p → x ∉ L → ∃ y : Nat, f x = some (y : Int) ∧ B ≤ y ∧ y < i
  left : ∀ x ∈ l, (p = 0 ∨ x ∈ L) → (B = 0 ∧ f x = none) ∨ (n ≤ B ∧ ∃ y : Nat, f x = some (y : Int) ∧ B ≤ y + n ∧ y < B)
  out : ∀ x, x ∉ l → f x = none
  esz : sz = if B = 0 then p else n

theorem fair_start {l : List Int} {n : Nat} (hn : 0 < n) : FairAt l n 0 [] (fun _ => none) 0 0 0 0 :=
  ⟨by simp, rfl, hn, fun _ => rfl, fun h => by omega, List.nodup_nil, by simp, fun _ _ h => by omega, fun _ _ _ => .inl ⟨rfl, rfl⟩, fun _ _ => rfl, rfl⟩

/-- Those who have not been told yet, the next one first. -/
theorem fair_pick {l L ls : List Int} {n i sz q p B : Nat} {f : Int → Option Int} (hl : l.Nodup) (hn : l.length = n) (h : FairAt l n i L f sz q p B) :
    ((rNext L l ls).1 :: (rNext L l ls).2.1).Nodup ∧ ((rNext L l ls).1 :: (rNext L l ls).2.1).length = n - p ∧ (∀ x ∈ (rNext L l ls).1 :: (rNext L l ls).2.1, x ∈ l ∧ (p = 0 ∨ x ∈ L)) ∧
      (∀ x ∈ l, x ∉ (rNext L l ls).1 :: (rNext L l ls).2.1 → 0 < p ∧ x ∉ L) := by
  by_cases hp : p = 0
  · have hL := h.l0 hp
    subst hL
    have hl0 : l ≠ [] := by intro e; rw [e] at hn; have := h.lp; simp at hn; omega
    rw [rNext_new hl0]
    have hperm := shufOut_perm l ls
    refine ⟨hperm.nodup_iff.2 hl, by rw [shufOut_length]; omega, fun x hx => ⟨hperm.mem_iff.1 hx, .inl hp⟩, fun x hx hno => absurd (hperm.mem_iff.2 hx) hno⟩
  · have hlen := h.l1 (by omega)
    have hL : L ≠ [] := by intro e; rw [e] at hlen; have := h.lp; simp at hlen; omega
    rw [rNext_old h.sub hL]
    exact ⟨h.nd, hlen, fun x hx => ⟨h.sub x hx, .inr hx⟩, fun x _ hno => ⟨by omega, hno⟩⟩

theorem fair_step {l L ls : List Int} {n i sz q p B : Nat} {f : Int → Option Int} (hl : l.Nodup) (hn : l.length = n) (h : FairAt l n i L f sz q p B) :
    ∃ q' p' B', FairAt l n (i + 1) (rNext L l ls).2.1 (updO f (rNext L l ls).1 i) (sizeO f (rNext L l ls).1 sz) q' p' B' := by
  obtain ⟨k1, k2, k3, k4⟩ := fair_pick (ls := ls) hl hn h
  obtain ⟨a, ha⟩ : ∃ a, (rNext L l ls).1 = a := ⟨_, rfl⟩
  obtain ⟨L', hL'⟩ : ∃ L', (rNext L l ls).2.1 = L' := ⟨_, rfl⟩
  rw [ha, hL'] at k1 k2 k3 k4 ⊢
  have hi := h.ei
  have hp := h.lp
  have haL : a ∉ L' := (List.nodup_cons.1 k1).1
  have hlen : L'.length + 1 = n - p := by simpa using k2
  have hal := k3 a (by simp)
  have hleft := h.left a hal.1 hal.2
  have hsz := h.esz
  have hsz' : sizeO f a sz = if B = 0 then p + 1 else n := by
    unfold sizeO
    rcases hleft with ⟨h1, h2⟩ | ⟨h1, y, h2, _⟩
    · rw [h2, if_neg (by simp), hsz, if_pos h1, if_pos h1]
    · rw [h2, if_pos (by simp), hsz, if_neg (by omega), if_neg (by omega)]
  clear hleft hsz
  have hother : ∀ x, x ≠ a → updO f a i x = f x := fun x hx => by unfold updO; rw [if_neg hx]
  have hself : updO f a i a = some (i : Int) := by unfold updO; rw [if_pos rfl]
  have hout : ∀ x, x ∉ l → updO f a i x = none := fun x hx => by
    rw [hother x (fun e => hx (by rw [e]; exact hal.1))]
    exact h.out x hx
  by_cases hend : p + 1 < n
  · refine ⟨q, p + 1, B, h.eb, by rw [hi]; rfl, hend, fun h0 => absurd h0 (Nat.succ_ne_zero p), fun _ => by omega, (List.nodup_cons.1 k1).2, fun x hx => (k3 x (by simp [hx])).1, fun x hx _ hno => ?_, fun x hx hor => ?_, hout, hsz'⟩
    · by_cases hxa : x = a
      · subst hxa
        exact ⟨i, hself, by omega, by omega⟩
      · obtain ⟨h1, h2⟩ := k4 x hx (by simp [hxa, hno])
        obtain ⟨y, h3, h4, h5⟩ := h.told x hx h1 h2
        exact ⟨y, (hother x hxa).trans h3, h4, Nat.lt_succ_of_lt h5⟩
    · have hxL : x ∈ L' := hor.resolve_left (by omega)
      have hxa : x ≠ a := fun e => haL (by rw [← e]; exact hxL)
      rw [hother x hxa]
      exact h.left x hx (k3 x (by simp [hxL])).2
  · have hL0 : L' = [] := List.eq_nil_of_length_eq_zero (by omega)
    subst hL0
    refine ⟨q + 1, 0, B + n, by rw [Nat.succ_mul, h.eb], by omega, by omega, fun _ => rfl, fun h => by omega, List.nodup_nil, by simp, fun x hx h0 => by omega, fun x hx _ => .inr ⟨by omega, ?_⟩, hout, ?_⟩
    · by_cases hxa : x = a
      · subst hxa
        exact ⟨i, hself, by omega, by omega⟩
      · obtain ⟨h1, h2⟩ := k4 x hx (by simp [hxa])
        obtain ⟨y, h3, h4, h5⟩ := h.told x hx h1 h2
        exact ⟨y, (hother x hxa).trans h3, by omega, by omega⟩
    · rw [hsz', if_neg (show ¬ B + n = 0 by omega)]
      split <;> omega

/-- What the map says of the next one. -/
theorem fair_was {l L ls : List Int} {n i sz q p B : Nat} {f : Int → Option Int} (hl : l.Nodup) (hn : l.length = n) (h : FairAt l n i L f sz q p B) :
    f (rNext L l ls).1 = none ∨ ∃ (y : Nat), f (rNext L l ls).1 = some (y : Int) ∧ y / n + 1 = q ∧ i / n = q ∧ y < i ∧ i + 1 ≤ y + 2 * n := by
  obtain ⟨k1, k2, k3, k4⟩ := fair_pick (ls := ls) hl hn h
  have hal := k3 _ (List.mem_cons_self)
  have hi := h.ei
  have hp := h.lp
  have hb := h.eb
  rcases h.left _ hal.1 hal.2 with ⟨_, h2⟩ | ⟨h1, y, h2, h3, h4⟩
  · exact .inl h2
  · refine .inr ⟨y, h2, ?_, ?_, by omega, by omega⟩
    · cases q with
      | zero => simp at hb; omega
      | succ q =>
        rw [Nat.succ_mul] at hb
        rw [Nat.div_eq_of_lt_le (show q * n ≤ y by omega) (show y < (q + 1) * n by rw [Nat.succ_mul]; omega)]
    · exact Nat.div_eq_of_lt_le (show q * n ≤ i by omega) (show i < (q + 1) * n by rw [Nat.succ_mul]; omega)

theorem fair_end {l L : List Int} {n i sz q p B k : Nat} {f : Int → Option Int} (h : FairAt l n i L f sz q p B) (hk : i = k * n) :
    (∀ x ∈ l, (f x).isSome = decide (0 < i)) ∧ (0 < i → sz = n) := by
  have hb := h.eb
  have hi := h.ei
  have hp := h.lp
  have hp0 : p = 0 := by
    have h1 : (q * n + p) % n = p := by rw [Nat.mul_comm, Nat.mul_add_mod]; exact Nat.mod_eq_of_lt hp
    have h2 : (k * n) % n = 0 := Nat.mul_mod_left k n
    rw [hb, ← hi, hk, h2] at h1
    exact h1.symm
  have hB : B = i := by omega
  refine ⟨fun x hx => ?_, fun h0 => by rw [h.esz, if_neg (by omega)]⟩
  rcases h.left x hx (.inl hp0) with ⟨h1, h2⟩ | ⟨h1, y, h2, _⟩
  · rw [h2]
    simp
    omega
  · rw [h2]
    simp
    omega

end Go.Proofs.Ytojjkbpocfomdaa
