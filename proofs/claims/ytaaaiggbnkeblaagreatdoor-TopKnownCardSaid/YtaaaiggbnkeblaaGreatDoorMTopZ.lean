/-
  A member that is alone: its blocks, its state as one structure.
-/
import Derived.Test.YtaaaiggbnkeblaaGreatDoorMTopN
import Derived.Test.YtaaaiggbnkeblaaGreatDoorMTopI
import Derived.Test.YtaaaiggbnkeblaaGreatDoorMClerk
namespace Go.Proofs.YtaaaiggbnkeblaaGreatDoor
set_option linter.unusedSimpArgs false
set_option linter.unusedVariables false
open Go.RowKit

theorem Mod.wide {S T : List Nat} {a b : World} (h : Mod S a b) (hs : ∀ k ∈ S, k ∈ T) : Mod T a b := h.mono (fun k _ hk => hs k hk)

/-- The blocks of a node that is alone are not one another. -/
abbrev Sep (N D K r S H T L R C m : Nat) : Prop := 1 ≠ N ∧ 1 ≠ D ∧ 1 ≠ K ∧ 1 ≠ r ∧ 1 ≠ S ∧ 1 ≠ H ∧ 1 ≠ T ∧ 1 ≠ L ∧ 1 ≠ R ∧ 1 ≠ C ∧ 1 ≠ m ∧ N ≠ 1 ∧ N ≠ D ∧ N ≠ K ∧ N ≠ r ∧ N ≠ S ∧ N ≠ H ∧ N ≠ T ∧ N ≠ L ∧ N ≠ R ∧ N ≠ C ∧ N ≠ m ∧ D ≠ 1 ∧ D ≠ N ∧ D ≠ K ∧ D ≠ r ∧ D ≠ S ∧ D ≠ H ∧ D ≠ T ∧ D ≠ L ∧ D ≠ R ∧ D ≠ C ∧ D ≠ m ∧ K ≠ 1 ∧ K ≠ N ∧ K ≠ D ∧ K ≠ r ∧ K ≠ S ∧ K ≠ H ∧ K ≠ T ∧ K ≠ L ∧ K ≠ R ∧ K ≠ C ∧ K ≠ m ∧ r ≠ 1 ∧ r ≠ N ∧ r ≠ D ∧ r ≠ K ∧ r ≠ S ∧ r ≠ H ∧ r ≠ T ∧ r ≠ L ∧ r ≠ R ∧ r ≠ C ∧ r ≠ m ∧ S ≠ 1 ∧ S ≠ N ∧ S ≠ D ∧ S ≠ K ∧ S ≠ r ∧ S ≠ H ∧ S ≠ T ∧ S ≠ L ∧ S ≠ R ∧ S ≠ C ∧ S ≠ m ∧ H ≠ 1 ∧ H ≠ N ∧ H ≠ D ∧ H ≠ K ∧ H ≠ r ∧ H ≠ S ∧ H ≠ T ∧ H ≠ L ∧ H ≠ R ∧ H ≠ C ∧ H ≠ m ∧ T ≠ 1 ∧ T ≠ N ∧ T ≠ D ∧ T ≠ K ∧ T ≠ r ∧ T ≠ S ∧ T ≠ H ∧ T ≠ L ∧ T ≠ R ∧ T ≠ C ∧ T ≠ m ∧ L ≠ 1 ∧ L ≠ N ∧ L ≠ D ∧ L ≠ K ∧ L ≠ r ∧ L ≠ S ∧ L ≠ H ∧ L ≠ T ∧ L ≠ R ∧ L ≠ C ∧ L ≠ m ∧ R ≠ 1 ∧ R ≠ N ∧ R ≠ D ∧ R ≠ K ∧ R ≠ r ∧ R ≠ S ∧ R ≠ H ∧ R ≠ T ∧ R ≠ L ∧ R ≠ C ∧ R ≠ m ∧ C ≠ 1 ∧ C ≠ N ∧ C ≠ D ∧ C ≠ K ∧ C ≠ r ∧ C ≠ S ∧ C ≠ H ∧ C ≠ T ∧ C ≠ L ∧ C ≠ R ∧ C ≠ m ∧ m ≠ 1 ∧ m ≠ N ∧ m ≠ D ∧ m ≠ K ∧ m ≠ r ∧ m ≠ S ∧ m ≠ H ∧ m ≠ T ∧ m ≠ L ∧ m ≠ R ∧ m ≠ C

theorem Sep.of {N D K r S H T L R C m : Nat} (h : (1 < D ∧ 1 < r ∧ D ≠ r ∧ D < K ∧ r < K ∧ K < N) ∧ N < S ∧ N < H ∧ N < T ∧ N < L ∧ N < R ∧ N < C ∧ N < m) (a : Apart S H T L R C m) : Sep N D K r S H T L R C m := by
  obtain ⟨⟨h1, h2, h3, h4, h5, h6⟩, h7, h8, h9, h10, h11, h12, h13⟩ := h
  obtain ⟨⟨a1, a2, a3, a4⟩, ⟨a5, a6, a7⟩, ⟨a8, a9, a10⟩, ⟨b1, b2, b3, b4, b5⟩, ⟨c1, c2, c3, c4, c5⟩, d⟩ := a
  unfold Sep
  refine ⟨?_, ?_, ?_, ?_, ?_, ?_, ?_, ?_, ?_, ?_, ?_, ?_, ?_, ?_, ?_, ?_, ?_, ?_, ?_, ?_, ?_, ?_, ?_, ?_, ?_, ?_, ?_, ?_, ?_, ?_, ?_, ?_, ?_, ?_, ?_, ?_, ?_, ?_, ?_, ?_, ?_, ?_, ?_, ?_, ?_, ?_, ?_, ?_, ?_, ?_, ?_, ?_, ?_, ?_, ?_, ?_, ?_, ?_, ?_, ?_, ?_, ?_, ?_, ?_, ?_, ?_, ?_, ?_, ?_, ?_, ?_, ?_, ?_, ?_, ?_, ?_, ?_, ?_, ?_, ?_, ?_, ?_, ?_, ?_, ?_, ?_, ?_, ?_, ?_, ?_, ?_, ?_, ?_, ?_, ?_, ?_, ?_, ?_, ?_, ?_, ?_, ?_, ?_, ?_, ?_, ?_, ?_, ?_, ?_, ?_, ?_, ?_, ?_, ?_, ?_, ?_, ?_, ?_, ?_, ?_, ?_, ?_, ?_, ?_, ?_, ?_, ?_, ?_, ?_, ?_, ?_, ?_⟩
  all_goals first | assumption | (apply Ne.symm; assumption) | omega

/-- A new clerk. -/
theorem Sep.clerk {N D K r S H T L R C m C' m' n : Nat} (h : Sep N D K r S H T L R C m) (hl : N < n ∧ D < n ∧ K < n ∧ r < n ∧ S < n ∧ H < n ∧ T < n ∧ L < n ∧ R < n) (h0 : 1 < n) (hC : n ≤ C') (hm : n ≤ m') (hCm : C' ≠ m') : Sep N D K r S H T L R C' m' := by
  obtain ⟨s0, s1, s2, s3, s4, s5, s6, s7, s8, s9, s10, s11, s12, s13, s14, s15, s16, s17, s18, s19, s20, s21, s22, s23, s24, s25, s26, s27, s28, s29, s30, s31, s32, s33, s34, s35, s36, s37, s38, s39, s40, s41, s42, s43, s44, s45, s46, s47, s48, s49, s50, s51, s52, s53, s54, s55, s56, s57, s58, s59, s60, s61, s62, s63, s64, s65, s66, s67, s68, s69, s70, s71, s72, s73, s74, s75, s76, s77, s78, s79, s80, s81, s82, s83, s84, s85, s86, s87, s88, s89, s90, s91, s92, s93, s94, s95, s96, s97, s98, s99, s100, s101, s102, s103, s104, s105, s106, s107, s108, s109, s110, s111, s112, s113, s114, s115, s116, s117, s118, s119, s120, s121, s122, s123, s124, s125, s126, s127, s128, s129, s130, s131⟩ := h
  obtain ⟨l1, l2, l3, l4, l5, l6, l7, l8, l9⟩ := hl
  refine ⟨?_, ?_, ?_, ?_, ?_, ?_, ?_, ?_, ?_, ?_, ?_, ?_, ?_, ?_, ?_, ?_, ?_, ?_, ?_, ?_, ?_, ?_, ?_, ?_, ?_, ?_, ?_, ?_, ?_, ?_, ?_, ?_, ?_, ?_, ?_, ?_, ?_, ?_, ?_, ?_, ?_, ?_, ?_, ?_, ?_, ?_, ?_, ?_, ?_, ?_, ?_, ?_, ?_, ?_, ?_, ?_, ?_, ?_, ?_, ?_, ?_, ?_, ?_, ?_, ?_, ?_, ?_, ?_, ?_, ?_, ?_, ?_, ?_, ?_, ?_, ?_, ?_, ?_, ?_, ?_, ?_, ?_, ?_, ?_, ?_, ?_, ?_, ?_, ?_, ?_, ?_, ?_, ?_, ?_, ?_, ?_, ?_, ?_, ?_, ?_, ?_, ?_, ?_, ?_, ?_, ?_, ?_, ?_, ?_, ?_, ?_, ?_, ?_, ?_, ?_, ?_, ?_, ?_, ?_, ?_, ?_, ?_, ?_, ?_, ?_, ?_, ?_, ?_, ?_, ?_, ?_, ?_⟩
  all_goals first | assumption | (apply Ne.symm; assumption) | (clear s0 s1 s2 s3 s4 s5 s6 s7 s8 s9 s10 s11 s12 s13 s14 s15 s16 s17 s18 s19 s20 s21 s22 s23 s24 s25 s26 s27 s28 s29 s30 s31 s32 s33 s34 s35 s36 s37 s38 s39 s40 s41 s42 s43 s44 s45 s46 s47 s48 s49 s50 s51 s52 s53 s54 s55 s56 s57 s58 s59 s60 s61 s62 s63 s64 s65 s66 s67 s68 s69 s70 s71 s72 s73 s74 s75 s76 s77 s78 s79 s80 s81 s82 s83 s84 s85 s86 s87 s88 s89 s90 s91 s92 s93 s94 s95 s96 s97 s98 s99 s100 s101 s102 s103 s104 s105 s106 s107 s108 s109 s110 s111 s112 s113 s114 s115 s116 s117 s118 s119 s120 s121 s122 s123 s124 s125 s126 s127 s128 s129 s130 s131; omega)

/-- A node 0 that is alone in its first view. -/
structure Alone (w : World) (N D K r S H T L R C m : Nat) (ev : Value) (now num : Int) (Q : List M) (met done quiet low : Int) (ring : Nat → P) (nx : Int) (f : Int → Option Int) (sz : Nat) (lf : Int → Option Int) (lsz : Nat) (re : Array MapEntry) (rc : Nat) : Prop where
  node : NodeAt w N D K (some ⟨S, 0, none⟩) ev 1
  det : DetAt w D r now
  desk : DeskAt w K 0 num Q
  tab : Tab w
  sit : RowAt w S (sitCells H T L R (some ⟨C, 0, none⟩) met done quiet)
  shelf : ShelfRaw w H low ring
  turn : Turn0 w T 0 1 1
  last : OMap Tryz.prog 3 23 .u64 w L lf lsz
  reach : w.heap[R]? = some (.map re rc)
  clerk : ClerkAt w C m nx f sz
  sep : Sep N D K r S H T L R C m

theorem Alone.mod0 {w w' : World} {N D K r S H T L R C m : Nat} {ev : Value} {now num : Int} {Q : List M} {met done quiet low : Int} {ring : Nat → P} {nx : Int} {f : Int → Option Int} {sz : Nat} {lf : Int → Option Int} {lsz : Nat} {re : Array MapEntry} {rc : Nat} (h : Alone w N D K r S H T L R C m ev now num Q met done quiet low ring nx f sz lf lsz re rc) (hm : Mod [] w w') : Alone w' N D K r S H T L R C m ev now num Q met done quiet low ring nx f sz lf lsz re rc :=
  ⟨h.node.mod hm (by simp [h.sep]), h.det.mod hm (by simp [h.sep]) (by simp [h.sep]), h.desk.mod hm (by simp [h.sep]), h.tab.mod hm (by simp [h.sep]), h.sit.mod hm (by simp [h.sep]), h.shelf.mod hm (by simp [h.sep]), h.turn.mod hm (by simp [h.sep]), h.last.mod hm (by simp [h.sep]), row_mod hm h.reach (by simp [h.sep]), h.clerk.mod hm (by simp [h.sep]) (by simp [h.sep]), h.sep⟩
theorem Alone.setNode {w w' : World} {N D K r S H T L R C m : Nat} {ev : Value} {now num : Int} {Q : List M} {met done quiet low : Int} {ring : Nat → P} {nx : Int} {f : Int → Option Int} {sz : Nat} {lf : Int → Option Int} {lsz : Nat} {re : Array MapEntry} {rc : Nat} {ev' : Value} (h : Alone w N D K r S H T L R C m ev now num Q met done quiet low ring nx f sz lf lsz re rc) (x : NodeAt w' N D K (some ⟨S, 0, none⟩) ev' 1) (hm : Mod [N] w w') : Alone w' N D K r S H T L R C m ev' now num Q met done quiet low ring nx f sz lf lsz re rc :=
  ⟨x, h.det.mod hm (by simp [h.sep]) (by simp [h.sep]), h.desk.mod hm (by simp [h.sep]), h.tab.mod hm (by simp [h.sep]), h.sit.mod hm (by simp [h.sep]), h.shelf.mod hm (by simp [h.sep]), h.turn.mod hm (by simp [h.sep]), h.last.mod hm (by simp [h.sep]), row_mod hm h.reach (by simp [h.sep]), h.clerk.mod hm (by simp [h.sep]) (by simp [h.sep]), h.sep⟩
theorem Alone.setDet {w w' : World} {N D K r S H T L R C m : Nat} {ev : Value} {now num : Int} {Q : List M} {met done quiet low : Int} {ring : Nat → P} {nx : Int} {f : Int → Option Int} {sz : Nat} {lf : Int → Option Int} {lsz : Nat} {re : Array MapEntry} {rc : Nat} {now' : Int} (h : Alone w N D K r S H T L R C m ev now num Q met done quiet low ring nx f sz lf lsz re rc) (x : DetAt w' D r now') (hm : Mod [D] w w') : Alone w' N D K r S H T L R C m ev now' num Q met done quiet low ring nx f sz lf lsz re rc :=
  ⟨h.node.mod hm (by simp [h.sep]), x, h.desk.mod hm (by simp [h.sep]), h.tab.mod hm (by simp [h.sep]), h.sit.mod hm (by simp [h.sep]), h.shelf.mod hm (by simp [h.sep]), h.turn.mod hm (by simp [h.sep]), h.last.mod hm (by simp [h.sep]), row_mod hm h.reach (by simp [h.sep]), h.clerk.mod hm (by simp [h.sep]) (by simp [h.sep]), h.sep⟩
theorem Alone.setDesk {w w' : World} {N D K r S H T L R C m : Nat} {ev : Value} {now num : Int} {Q : List M} {met done quiet low : Int} {ring : Nat → P} {nx : Int} {f : Int → Option Int} {sz : Nat} {lf : Int → Option Int} {lsz : Nat} {re : Array MapEntry} {rc : Nat} {num' : Int} {Q' : List M} (h : Alone w N D K r S H T L R C m ev now num Q met done quiet low ring nx f sz lf lsz re rc) (x : DeskAt w' K 0 num' Q') (hm : Mod [K] w w') : Alone w' N D K r S H T L R C m ev now num' Q' met done quiet low ring nx f sz lf lsz re rc :=
  ⟨h.node.mod hm (by simp [h.sep]), h.det.mod hm (by simp [h.sep]) (by simp [h.sep]), x, h.tab.mod hm (by simp [h.sep]), h.sit.mod hm (by simp [h.sep]), h.shelf.mod hm (by simp [h.sep]), h.turn.mod hm (by simp [h.sep]), h.last.mod hm (by simp [h.sep]), row_mod hm h.reach (by simp [h.sep]), h.clerk.mod hm (by simp [h.sep]) (by simp [h.sep]), h.sep⟩
theorem Alone.setSit {w w' : World} {N D K r S H T L R C m : Nat} {ev : Value} {now num : Int} {Q : List M} {met done quiet low : Int} {ring : Nat → P} {nx : Int} {f : Int → Option Int} {sz : Nat} {lf : Int → Option Int} {lsz : Nat} {re : Array MapEntry} {rc : Nat} {met' done' quiet' : Int} (h : Alone w N D K r S H T L R C m ev now num Q met done quiet low ring nx f sz lf lsz re rc) (x : RowAt w' S (sitCells H T L R (some ⟨C, 0, none⟩) met' done' quiet')) (hm : Mod [S] w w') : Alone w' N D K r S H T L R C m ev now num Q met' done' quiet' low ring nx f sz lf lsz re rc :=
  ⟨h.node.mod hm (by simp [h.sep]), h.det.mod hm (by simp [h.sep]) (by simp [h.sep]), h.desk.mod hm (by simp [h.sep]), h.tab.mod hm (by simp [h.sep]), x, h.shelf.mod hm (by simp [h.sep]), h.turn.mod hm (by simp [h.sep]), h.last.mod hm (by simp [h.sep]), row_mod hm h.reach (by simp [h.sep]), h.clerk.mod hm (by simp [h.sep]) (by simp [h.sep]), h.sep⟩
theorem Alone.setShelf {w w' : World} {N D K r S H T L R C m : Nat} {ev : Value} {now num : Int} {Q : List M} {met done quiet low : Int} {ring : Nat → P} {nx : Int} {f : Int → Option Int} {sz : Nat} {lf : Int → Option Int} {lsz : Nat} {re : Array MapEntry} {rc : Nat} {low' : Int} {ring' : Nat → P} (h : Alone w N D K r S H T L R C m ev now num Q met done quiet low ring nx f sz lf lsz re rc) (x : ShelfRaw w' H low' ring') (hm : Mod [H] w w') : Alone w' N D K r S H T L R C m ev now num Q met done quiet low' ring' nx f sz lf lsz re rc :=
  ⟨h.node.mod hm (by simp [h.sep]), h.det.mod hm (by simp [h.sep]) (by simp [h.sep]), h.desk.mod hm (by simp [h.sep]), h.tab.mod hm (by simp [h.sep]), h.sit.mod hm (by simp [h.sep]), x, h.turn.mod hm (by simp [h.sep]), h.last.mod hm (by simp [h.sep]), row_mod hm h.reach (by simp [h.sep]), h.clerk.mod hm (by simp [h.sep]) (by simp [h.sep]), h.sep⟩
theorem Alone.setLast {w w' : World} {N D K r S H T L R C m : Nat} {ev : Value} {now num : Int} {Q : List M} {met done quiet low : Int} {ring : Nat → P} {nx : Int} {f : Int → Option Int} {sz : Nat} {lf : Int → Option Int} {lsz : Nat} {re : Array MapEntry} {rc : Nat} {lf' : Int → Option Int} {lsz' : Nat} (h : Alone w N D K r S H T L R C m ev now num Q met done quiet low ring nx f sz lf lsz re rc) (x : OMap Tryz.prog 3 23 .u64 w' L lf' lsz') (hm : Mod [L] w w') : Alone w' N D K r S H T L R C m ev now num Q met done quiet low ring nx f sz lf' lsz' re rc :=
  ⟨h.node.mod hm (by simp [h.sep]), h.det.mod hm (by simp [h.sep]) (by simp [h.sep]), h.desk.mod hm (by simp [h.sep]), h.tab.mod hm (by simp [h.sep]), h.sit.mod hm (by simp [h.sep]), h.shelf.mod hm (by simp [h.sep]), h.turn.mod hm (by simp [h.sep]), x, row_mod hm h.reach (by simp [h.sep]), h.clerk.mod hm (by simp [h.sep]) (by simp [h.sep]), h.sep⟩
theorem Alone.setReach {w w' : World} {N D K r S H T L R C m : Nat} {ev : Value} {now num : Int} {Q : List M} {met done quiet low : Int} {ring : Nat → P} {nx : Int} {f : Int → Option Int} {sz : Nat} {lf : Int → Option Int} {lsz : Nat} {re : Array MapEntry} {rc : Nat} {re' : Array MapEntry} {rc' : Nat} (h : Alone w N D K r S H T L R C m ev now num Q met done quiet low ring nx f sz lf lsz re rc) (x : w'.heap[R]? = some (.map re' rc')) (hm : Mod [R] w w') : Alone w' N D K r S H T L R C m ev now num Q met done quiet low ring nx f sz lf lsz re' rc' :=
  ⟨h.node.mod hm (by simp [h.sep]), h.det.mod hm (by simp [h.sep]) (by simp [h.sep]), h.desk.mod hm (by simp [h.sep]), h.tab.mod hm (by simp [h.sep]), h.sit.mod hm (by simp [h.sep]), h.shelf.mod hm (by simp [h.sep]), h.turn.mod hm (by simp [h.sep]), h.last.mod hm (by simp [h.sep]), x, h.clerk.mod hm (by simp [h.sep]) (by simp [h.sep]), h.sep⟩
theorem Alone.setClerk {w w' : World} {N D K r S H T L R C m : Nat} {ev : Value} {now num : Int} {Q : List M} {met done quiet low : Int} {ring : Nat → P} {nx : Int} {f : Int → Option Int} {sz : Nat} {lf : Int → Option Int} {lsz : Nat} {re : Array MapEntry} {rc : Nat} {nx' : Int} {f' : Int → Option Int} {sz' : Nat} (h : Alone w N D K r S H T L R C m ev now num Q met done quiet low ring nx f sz lf lsz re rc) (x : ClerkAt w' C m nx' f' sz') (hm : Mod [C, m] w w') : Alone w' N D K r S H T L R C m ev now num Q met done quiet low ring nx' f' sz' lf lsz re rc :=
  ⟨h.node.mod hm (by simp [h.sep]), h.det.mod hm (by simp [h.sep]) (by simp [h.sep]), h.desk.mod hm (by simp [h.sep]), h.tab.mod hm (by simp [h.sep]), h.sit.mod hm (by simp [h.sep]), h.shelf.mod hm (by simp [h.sep]), h.turn.mod hm (by simp [h.sep]), h.last.mod hm (by simp [h.sep]), row_mod hm h.reach (by simp [h.sep]), x, h.sep⟩
theorem Alone.lts {w : World} {N D K r S H T L R C m : Nat} {ev : Value} {now num : Int} {Q : List M} {met done quiet low : Int} {ring : Nat → P} {nx : Int} {f : Int → Option Int} {sz : Nat} {lf : Int → Option Int} {lsz : Nat} {re : Array MapEntry} {rc : Nat} (h : Alone w N D K r S H T L R C m ev now num Q met done quiet low ring nx f sz lf lsz re rc) : (N < w.heap.size ∧ D < w.heap.size ∧ K < w.heap.size ∧ r < w.heap.size ∧ S < w.heap.size ∧ H < w.heap.size ∧ T < w.heap.size ∧ L < w.heap.size ∧ R < w.heap.size) ∧ 1 < w.heap.size ∧ C < w.heap.size ∧ m < w.heap.size := by
  obtain ⟨_, _, hraw, _⟩ := h.desk
  exact ⟨⟨h.node.lt, h.det.lt, hraw.lt, h.det.roll0.lt, h.sit.lt, h.shelf.lt, h.turn.lt, h.last.lt, (Array.getElem?_eq_some_iff.1 h.reach).1⟩, h.tab.1, block_lt_of_cell h.clerk.1, h.clerk.2.2.2.2.1.lt⟩
/-- A new clerk at the seat. -/
theorem Alone.newClerk {w w' : World} {N D K r S H T L R C m : Nat} {ev : Value} {now num : Int} {Q : List M} {met done quiet low : Int} {ring : Nat → P} {nx : Int} {f : Int → Option Int} {sz : Nat} {lf : Int → Option Int} {lsz : Nat} {re : Array MapEntry} {rc : Nat} {C' m' n : Nat} {nx' : Int} {f' : Int → Option Int} {sz' : Nat} {w0 : World} (h : Alone w N D K r S H T L R C m ev now num Q met done quiet low ring nx f sz lf lsz re rc) (h0 : Alone w0 N D K r S H T L R C m ev now num Q met done quiet low ring nx f sz lf lsz re rc) (hn : n = w0.heap.size) (hC : n ≤ C') (hm' : n ≤ m') (x : ClerkAt w C' m' nx' f' sz')
    (y : RowAt w' S (sitCells H T L R (some ⟨C', 0, none⟩) met done quiet)) (hm : Mod [S] w w') : Alone w' N D K r S H T L R C' m' ev now num Q met done quiet low ring nx' f' sz' lf lsz re rc := by
  subst hn
  have hl := h0.lts
  have hs := h.sep
  have hp : Sep N D K r S H T L R C' m' := hs.clerk hl.1 hl.2.1 hC hm' x.2.2.2.1
  exact ⟨h.node.mod hm (by simp [h.sep]), h.det.mod hm (by simp [h.sep]) (by simp [h.sep]), h.desk.mod hm (by simp [h.sep]), h.tab.mod hm (by simp [h.sep]), y, h.shelf.mod hm (by simp [h.sep]), h.turn.mod hm (by simp [h.sep]), h.last.mod hm (by simp [h.sep]), row_mod hm h.reach (by simp [h.sep]), x.mod hm (by simp [hp]) (by simp [hp]), hp⟩
theorem OMap.ofEmpty {P : Program} {K E : TypeId} {q : IntKind} {w : World} {b : Nat} (h : w.heap[b]? = some (.map #[] 0)) : OMap P K E q w b (fun _ => none) 0 := by
  have hb := (Array.getElem?_eq_some_iff.1 h).1
  have h1 := OMap.made P K E q { w with heap := w.heap.extract 0 b }
  have hs : ({ w with heap := w.heap.extract 0 b } : World).heap.size = b := by simp; omega
  have hn := heap_new { w with heap := w.heap.extract 0 b } (.map #[] 0)
  rw [hs] at h1 hn
  exact h1.same (h.trans hn.symm)
/-- A new shelf's cells: nothing is there. -/
def isStr0 (o : Option Value) : Bool := match o with
  | some (.string s) => decide (s.data.toList = [])
  | _ => false
theorem isStr0_eq {o : Option Value} (h : isStr0 o = true) : o = some (.string ByteArray.empty) := by
  unfold isStr0 at h
  split at h
  · rename_i s
    have h1 : s.data.toList = [] := by simpa using h
    obtain ⟨⟨l⟩⟩ := s
    have h2 : l = [] := h1
    subst h2
    rfl
  · cases h
theorem shelf_zero {w : World} {H : Nat} (h : w.heap[H]? = some (.cells shelfCells 273 (0, 0))) : ShelfRaw w H 0 (fun _ => p0) := by
  have hz : ∀ k : Fin 64, isInt shelfCells[k.val * 4]? .u64 0 = true ∧ isInt shelfCells[k.val * 4 + 1]? .i64 0 = true ∧ isInt shelfCells[k.val * 4 + 2]? .u64 0 = true ∧ isStr0 shelfCells[k.val * 4 + 3]? = true := by unfold shelfCells; decide +kernel
  have hs : shelfCells.size = 257 := by unfold shelfCells; decide +kernel
  have hl : isInt shelfCells[256]? .u64 0 = true := by unfold shelfCells; decide +kernel
  refine ⟨cell_in h (isInt_eq hl), fun j hj i v hv => cell_in h ?_, fun j hj => ⟨some_in h (by rw [hs]; omega), free_in h⟩, by omega, by omega⟩
  have hi : i < 4 := (List.getElem?_eq_some_iff.1 hv).1
  obtain ⟨z0, z1, z2, z3⟩ := hz ⟨j, hj⟩
  have e2 : i = 0 ∨ i = 1 ∨ i = 2 ∨ i = 3 := by omega
  rcases e2 with rfl | rfl | rfl | rfl
  · rw [← hv]; exact isInt_eq z0
  · rw [← hv]; exact isInt_eq z1
  · rw [← hv]; exact isInt_eq z2
  · rw [← hv]; exact isStr0_eq z3
theorem Inst.alone {w : World} {N D K r S H T L R C m sz : Nat} {ev : Value} (h : Inst w N D K r S H T L R C m sz ev) (hs : Sep N D K r S H T L R C m) :
    Alone w N D K r S H T L R C m ev 0 0 [] 0 0 0 0 (fun _ => p0) 1 (fun _ => none) sz (fun _ => none) 0 #[] 0 :=
  ⟨h.node, h.det, h.desk, h.tab, h.sit, shelf_zero h.shelf, h.turn, OMap.ofEmpty h.last, h.reach, h.clerk, hs⟩

set_option maxHeartbeats 1000000 in
theorem cnext_any (d m sz : Nat) (nx : Int) (f : Int → Option Int) (w : World) (h : ClerkAt w d m nx f sz) :
    Calls Tryz.prog 269 #[.pointer (some ⟨d, 0, none⟩)] w fun e w' => e = .returned (.int .u64 nx) ∧ w = w' := by
  obtain ⟨h1, h2, h3, h4, h5, h6, h7⟩ := h
  clear h2 h3 h5 h6 h7
  go_enter Tryz.func269, Tryz.ntmps269
  go_wp2
  go_ret
  exact ⟨rfl, rfl⟩


end Go.Proofs.YtaaaiggbnkeblaaGreatDoor
