/-
  Oil: the range of the oil after each night.
-/
import Derived.Test.YtefhdcecbmgljaaLevels
import Derived.Test.YtefhdcecbmgljaaCheck2
set_option linter.all false
namespace Go.Proofs.Ytefhdcecbmgljaa
open Go.RowKit Go.WalkArith

def flatR (lo hi : Nat → Int) (n : Nat) : List Value := (List.range n).flatMap fun i : Nat => [.int .i64 (lo i), .int .i64 (hi i)]
theorem flatR_succ (lo hi : Nat → Int) (n : Nat) : flatR lo hi (n + 1) = flatR lo hi n ++ [.int .i64 (lo n), .int .i64 (hi n)] := by simp [flatR, List.range_succ, List.flatMap_append]
theorem ends_fun {n : Nat} {F : Nat → Nat → Bool} (h : ∀ j, j < n → ∃ x, x < 401 ∧ F j x = true) : ∃ L H : Nat → Nat, ∀ j, j < n → EndsOf (F j) (L j) (H j) := by
  have h2 : ∀ j, ∃ p : Nat × Nat, j < n → EndsOf (F j) p.1 p.2 := fun j => by
    by_cases e : j < n
    · obtain ⟨lo, hi, he⟩ := row_ends (h j e)
      exact ⟨(lo, hi), fun _ => he⟩
    · exact ⟨(0, 0), fun h => absurd h e⟩
  obtain ⟨p, hp⟩ := Classical.axiomOfChoice h2
  exact ⟨fun j => (p j).1, fun j => (p j).2, hp⟩
theorem cons_rows {s : St} {c k : Nat → Int} {dips : List Dp} {F : Nat → Nat → Bool} (hs : StOk s) (hp : Pl s c k) (hc : Cons s c k dips) (hF : ∀ j, j < s.ns.length → IsRow (FB s c k dips j) (F j)) : ∀ j, j < s.ns.length → ∃ x, x < 401 ∧ F j x = true := by
  intro j hj
  obtain ⟨t, b, ht, ha⟩ := hc
  have h1 := (lev_iff (s := s) (c := c) (k := k) (dips := dips) (j := j + 1) (by omega)).2 ⟨t, b, ht, ha, rfl⟩
  have hbd := oilF_bd hs hp ht (i := j + 1) (by omega)
  have := hs.c1
  generalize oilF s c k b t (j + 1) = o at *
  obtain ⟨n, rfl⟩ := Int.eq_ofNat_of_zero_le hbd.1
  exact ⟨n, by omega, (hF j hj n (by omega)).2 h1⟩

theorem Try.info36 : (Try.prog.info? 36).map (fun i => (i.zero, i.size, i.bytes)) = some (some (.agg #[.int .i64 0, .int .i64 0]), 2, 16) := by kernel_rfl
/-- How Oil ends. -/
def OilPost (s : St) (c k : List Int) (dips : List Dp) (w : World) (e : Ending) (w' : World) : Prop :=
  Below w.heap.size w w' ∧ ((dippedL s c k dips ≠ 0 ∧ e = .returned (.tuple #[.slice none 0 0, .int .i64 (dippedL s c k dips)])) ∨
    (dippedL s c k dips = 0 ∧ ¬ Cons s (atL c) (atL k) dips ∧ e = .returned (.tuple #[.slice none 0 0, .int .i64 9])) ∨
    (dippedL s c k dips = 0 ∧ Cons s (atL c) (atL k) dips ∧ ∃ v L H, e = .returned (.tuple #[v, .int .i64 0]) ∧ IsRng s (atL c) (atL k) dips L H ∧ w'.ownsRow w.heap.size 36 2 v s.ns.length (flatR L H s.ns.length)))

theorem dippedL_zero {s : St} {c k : List Int} {dips : List Dp} (h : dippedL s c k dips = 0) : planL s c k = 0 ∧ dips.length ≤ 6 := by
  unfold dippedL at h
  split at h
  · exact absurd h ‹_›
  · refine ⟨by simpa using ‹¬ planL s c k ≠ 0›, ?_⟩
    unfold dipsL at h
    split at h
    · cases h
    · omega

def ORel (n g : Nat) (L H : Nat → Nat) (w w3 : World) (v i : Value) (wr : World) : Prop :=
  ∃ k : Nat, k ≤ n ∧ i = .int .i64 k ∧ wr.ownsRow w3.heap.size 36 2 v k (flatR (fun j => L j) (fun j => H j) k) ∧ Below w3.heap.size w3 wr

set_option maxRecDepth 100000 in
set_option maxHeartbeats 4000000 in
theorem oil_any (s : St) (A : Option Addr) (cp : Nat) (Ac Ak : Option Addr) (cc ck : Nat) (c k : List Int) (Ad : Option Addr) (cd : Nat) (dips : List Dp) (w : World) (hn : s.ns.length ≤ 1000000) (hcl : c.length ≤ 1000000) (hkl : k.length ≤ 1000000) (hdl : dips.length ≤ 1000000) (hA : NtsAt w A s.ns) (hc : IntsAt w (.slice Ac c.length cc) c) (hk : IntsAt w (.slice Ak k.length ck) k) (hd : DpsAt w Ad dips) :
    Calls Try.prog 45 #[.agg #[.int .i64 s.cap, .int .i64 s.can, .int .i64 s.sl, .int .i64 s.sh, .slice A s.ns.length cp], .agg #[.slice Ac c.length cc, .slice Ak k.length ck], .slice Ad dips.length cd] w (OilPost s c k dips w) := by
  have hB0 : Below w.heap.size w ((w.alloc (.cells #[.int .i64 s.cap, .int .i64 s.can, .int .i64 s.sl, .int .i64 s.sh, .slice A s.ns.length cp] 39)).alloc (.cells #[.slice Ac c.length cc, .slice Ak k.length ck] 44)) := ((Below.refl _ _).alloc (Nat.le_refl _) _).alloc (by simp) _
  have hn0 : ((w.alloc (.cells #[.int .i64 s.cap, .int .i64 s.can, .int .i64 s.sl, .int .i64 s.sh, .slice A s.ns.length cp] 39)).alloc (.cells #[.slice Ac c.length cc, .slice Ak k.length ck] 44)).heap[w.heap.size]? = some (.cells #[.int .i64 s.cap, .int .i64 s.can, .int .i64 s.sl, .int .i64 s.sh, .slice A s.ns.length cp] 39 (0, 0)) := (Below.heap_alloc _ _ _ (by simp)).trans (heap_new_at _ _ _ rfl)
  have hn1 : ((w.alloc (.cells #[.int .i64 s.cap, .int .i64 s.can, .int .i64 s.sl, .int .i64 s.sh, .slice A s.ns.length cp] 39)).alloc (.cells #[.slice Ac c.length cc, .slice Ak k.length ck] 44)).heap[w.heap.size + 1]? = some (.cells #[.slice Ac c.length cc, .slice Ak k.length ck] 44 (0, 0)) := heap_alloc2 _ _ _
  obtain ⟨w1, hw1⟩ : ∃ w1, (w.alloc (.cells #[.int .i64 s.cap, .int .i64 s.can, .int .i64 s.sl, .int .i64 s.sh, .slice A s.ns.length cp] 39)).alloc (.cells #[.slice Ac c.length cc, .slice Ak k.length ck] 44) = w1 := ⟨_, rfl⟩
  rw [hw1] at hB0 hn0 hn1
  have hdp := Lib.hid (dipped_any s A cp Ac Ak cc ck c k Ad cd dips w1 hn hcl hkl hdl (hA.keep hB0 (Nat.le_refl _)) (hc.keep hB0 (Nat.le_refl _)) (hk.keep hB0 (Nat.le_refl _)) (hd.keep hB0 (Nat.le_refl _)))
  have HB1 := Lib.hid hB0
  have HN0 := Lib.hid hn0
  have HN1 := Lib.hid hn1
  have HW1 := Lib.hid hw1
  have HA := Lib.hid hA
  have HC := Lib.hid hc
  have HK := Lib.hid hk
  have HD := Lib.hid hd
  obtain ⟨Q, hQ⟩ : ∃ Q, dippedL s c k dips = Q := ⟨_, rfl⟩
  rw [hQ] at hdp
  have HQ := Lib.hid hQ
  clear hw1 hB0 hn0 hn1 hA hc hk hd hQ
  go_enter Try.func45, Try.ntmps45
  go_wp2_with fail
  rw [HW1.out]
  with_reducible refine hdp.out.mono ?_
  rintro e w2 ⟨rfl, hb2⟩
  have HB2 := Lib.hid (HB1.out.trans (hb2.mono HB1.out.size))
  have HN02 := Lib.hid ((hb2.block _ (Array.getElem?_eq_some_iff.1 HN0.out).1).trans HN0.out)
  have HN12 := Lib.hid ((hb2.block _ (Array.getElem?_eq_some_iff.1 HN1.out).1).trans HN1.out)
  clear HW1 hdp HB1 HN0 HN1 hb2
  by_cases hq : Q = 0
  · subst hq
    have hpl := dippedL_zero HQ.out
    have HPL := Lib.hid hpl.1
    have hd6 := hpl.2
    obtain ⟨hok, hcx, hkx, hpp⟩ := planL_zero.1 hpl.1
    have HOK := Lib.hid hok
    have HPP := Lib.hid hpp
    have hlv := Lib.hid (levels_any s A cp Ac Ak Ad cc ck cd c k dips w2 hpl.1 (by omega) (HA.out.keep HB2.out (Nat.le_refl _)) (HC.out.keep HB2.out (Nat.le_refl _)) (HK.out.keep HB2.out (Nat.le_refl _)) (HD.out.keep HB2.out (Nat.le_refl _)))
    have b0 : w2.cell? ⟨w.heap.size, 0, none⟩ = some (.int .i64 s.cap) := by simp [World.cell?, HN02.out]
    have b1 : w2.cell? ⟨w.heap.size, 1, none⟩ = some (.int .i64 s.can) := by simp [World.cell?, HN02.out]
    have b2 : w2.cell? ⟨w.heap.size, 2, none⟩ = some (.int .i64 s.sl) := by simp [World.cell?, HN02.out]
    have b3 : w2.cell? ⟨w.heap.size, 3, none⟩ = some (.int .i64 s.sh) := by simp [World.cell?, HN02.out]
    have b4 : w2.cell? ⟨w.heap.size, 4, none⟩ = some (.slice A s.ns.length cp) := by simp [World.cell?, HN02.out]
    have b5 : w2.cell? ⟨w.heap.size + 1, 0, none⟩ = some (.slice Ac c.length cc) := by simp [World.cell?, HN12.out]
    have b6 : w2.cell? ⟨w.heap.size + 1, 1, none⟩ = some (.slice Ak k.length ck) := by simp [World.cell?, HN12.out]
    have hn6 := hok.len
    clear hpl hok hpp hcx hkx
    go_wp2_with fail
    with_reducible refine hlv.out.mono ?_
    clear b0 b1 b2 b3 b4 b5 b6 hlv HN02 HN12
    rintro e w3 ⟨hb3, ⟨hcn, rfl⟩ | ⟨v, xs, F, rfl, hcn, hown, hrv, hF⟩⟩
    · have hfin : OilPost s c k dips w (.returned (.tuple #[.slice none 0 0, .int .i64 9])) w3 := ⟨HB2.out.trans (hb3.mono HB2.out.size), .inr (.inl ⟨HQ.out, hcn, rfl⟩)⟩
      have HFIN := Lib.hid hfin
      clear hfin hcn hb3
      go_wp2_with fail
      go_ret2
      exact HFIN.out
    · obtain ⟨L, H, hLH⟩ := ends_fun (cons_rows HOK.out HPP.out hcn hF)
      have hrng := ends_rng HOK.out HPP.out hF hLH
      obtain ⟨g, cap, rfl⟩ : ∃ g cap, v = .slice (some ⟨g, 0, none⟩) s.ns.length cap := by
        have hpos := HOK.out.pos
        rcases hown.2 with ⟨_, h0⟩ | ⟨g, cap, cur, h1, _⟩
        · omega
        · exact ⟨g, cap, h1⟩
      have HLH := Lib.hid hLH
      have HRNG := Lib.hid hrng
      have HCN := Lib.hid hcn
      have HOWN := Lib.hid hown
      have HRV := Lib.hid hrv
      have HB3 := Lib.hid (HB2.out.trans (hb3.mono HB2.out.size))
      clear hLH hrng hcn hown hrv hb3 hF
      go_wp2_with fail
      go_loopw [11, 34] (ORel s.ns.length g L H w w3) (fun _ i _ => s.ns.length - (intOf i).toNat)
      case atStart => exact ⟨0, by omega, rfl, World.ownsRow_nil _ _ _ _, Below.refl _ _⟩
      case round =>
        obtain ⟨j, hj, rfl, hown2, hbe⟩ := hrel
        have HO2 := Lib.hid hown2
        have HBE := Lib.hid hbe
        clear hown2 hbe
        by_cases hlt : j < s.ns.length
        · have hlt' : decide ((j : Int) < (s.ns.length : Int)) = true := by simp; omega
          have j0 : (0 : Int) ≤ (j : Int) := by omega
          have j1 : (j : Int) < (s.ns.length : Int) := by omega
          obtain ⟨cs, hcs, hrg⟩ := own_row HOWN.out HRV.out hlt
          have HCS := Lib.hid hcs
          have HRG := Lib.hid (rangeAt_of' hrg (HBE.out.block g (HOWN.out.lt g rfl).2))
          clear hcs hrg
          have hz1 := Go.heap_alloc_new wr (.cells Try.zeroCells139 139)
          have HZ1 := Lib.hid hz1
          have HZ2 := Lib.hid (setRow_heap (wr.alloc (.cells Try.zeroCells139 139)) wr.heap.size Try.zeroCells139 cs.toArray 139 (0, 0) hz1)
          have hbz : Below wr.heap.size wr ((wr.alloc (.cells Try.zeroCells139 139)).setRow wr.heap.size cs.toArray) := by
            have h0 : Below wr.heap.size wr (wr.alloc (.cells Try.zeroCells139 139)) := (Below.refl _ _).alloc (Nat.le_refl _) _
            exact ⟨rfl, rfl, rfl, by unfold World.setRow; simp, fun q hq => (heap_setRow _ _ (by omega)).trans (h0.block q hq)⟩
          have HBZ := Lib.hid hbz
          have hsz : ((wr.alloc (.cells Try.zeroCells139 139)).setRow wr.heap.size cs.toArray).heap.size = wr.heap.size + 1 := by unfold World.setRow; simp
          clear hz1 hbz
          go_wp2_with (first | (refine wpList_load_mid rfl 139 _ rfl g (j * 401) rfl cs _ HRG.out Try.underlying139 rfl (by rw [← List.size_toArray]; exact HCS.out.info) ?_) | (refine wpList_store_row rfl 139 _ _ rfl _ cs.toArray rfl rfl 139 Try.zeroCells139 HZ1.out HCS.out.info (by rw [HCS.out.1]; exact zeros_row.1) HCS.out.one ?_) | (refine wpList_load_row rfl 139 _ rfl _ rfl 139 cs.toArray _ _ HZ2.out Try.underlying139 rfl HCS.out.info ?_))
          generalize (wr.alloc (.cells Try.zeroCells139 139)).setRow wr.heap.size cs.toArray = w4 at HBZ hsz ⊢
          clear HZ1 HZ2 HRG
          refine (ends_any cs.toArray (F j) (L j) (H j) w4 HCS.out (HLH.out j hlt)).mono ?_
          rintro e w5 ⟨rfl, hb5⟩
          have HB5 := Lib.hid (HBZ.out.trans (hb5.mono HBZ.out.size))
          obtain ⟨lo, hlo⟩ : ∃ lo, L j = lo := ⟨_, rfl⟩
          obtain ⟨hi, hhi⟩ : ∃ hi, H j = hi := ⟨_, rfl⟩
          rw [hlo, hhi]
          have hsu : flatR (fun j => (L j : Int)) (fun j => (H j : Int)) (j + 1) = flatR (fun j => (L j : Int)) (fun j => (H j : Int)) j ++ [.int .i64 lo, .int .i64 hi] := by rw [flatR_succ, hlo, hhi]
          have HSU := Lib.hid hsu
          have HO5 := Lib.hid (HO2.out.kept (Go_grown_of_below HB5.out) (own_none _))
          have HBE5 := Lib.hid (HBE.out.trans (HB5.out.mono HBE.out.size))
          obtain ⟨i0, hi0', hz0', hz1', hz2'⟩ := info_parts Try.info36
          have hi0 := Lib.hid hi0'
          have hz0 := Lib.hid hz0'
          have hz1 := Lib.hid hz1'
          have hz2 := Lib.hid hz2'
          have hws := HBE.out.size
          have hw5 := HB5.out.size
          clear hsz hlo hhi hsu hb5 hi0' hz0' hz1' hz2' HBZ
          go_wp2_with (at_builtin; refine wpList_append_own _ rfl _ _ 75 rfl w3.heap.size 36 i0 (.agg #[.int .i64 0, .int .i64 0]) 2 16 Try.underlying75 hi0.out hz0.out hz1.out hz2.out rfl (by decide) _ j _ rfl ((HO5.out.alloc _).alloc _) ⟨w5.heap.size + 1, 0, none⟩ 1 1 [.int .i64 lo, .int .i64 hi] rfl rfl ?c1 ?c2 ?c3 ?c4 ?c5 ?_)
          case c1 => exact World.news_of_block (cs := #[.int .i64 lo, .int .i64 hi]) (t := 36) (fr := (0, 0)) (heap_alloc2 w5 _ _)
          case c2 => simp [Value.oneCell']
          case c3 => unfold maxLen; omega
          case c4 => omega
          case c5 => simp; omega
          intro v2 w6 hown6 hgrow hnil6
          have hx6 : Below w3.heap.size w5 w6 := ((((Below.refl _ w5).alloc (by omega) _).alloc (by simp; omega) _)).trans (below_of_grown hgrow ((HO5.out.alloc _).alloc _) (Nat.le_refl _) (by simp; omega))
          have HOWN6 := Lib.hid hown6
          have HBE6 := Lib.hid (HBE5.out.trans (hx6.mono (Nat.le_refl _)))
          clear hown6 hgrow hnil6 hx6 HO5 HBE5 HO2 HBE
          go_wp2_with fail
          go_roundw
          case rel => exact ⟨j + 1, by omega, by go_num, by rw [HSU.out]; exact HOWN6.out, HBE6.out⟩
          case measure => simp [intOf]; omega
        · have hlt' : decide ((j : Int) < (s.ns.length : Int)) = false := by simp; omega
          obtain rfl : j = s.ns.length := by omega
          have hfin : OilPost s c k dips w (.returned (.tuple #[u11, .int .i64 0])) wr := ⟨HB3.out.trans (HBE.out.mono HB3.out.size), .inr (.inr ⟨HQ.out, HCN.out, u11, _, _, rfl, HRNG.out, HO2.out.lower HB3.out.size⟩)⟩
          have HFIN := Lib.hid hfin
          clear hfin
          go_wp2_with fail
          go_ret2
          exact HFIN.out
  · have hne : (Q != 0) = true := by simpa using hq
    have hfin : OilPost s c k dips w (.returned (.tuple #[.slice none 0 0, .int .i64 Q])) w2 := ⟨HB2.out, .inl ⟨by rw [HQ.out]; exact hq, by rw [HQ.out]⟩⟩
    have HFIN := Lib.hid hfin
    clear hfin hq
    go_wp2_with fail
    go_ret2
    exact HFIN.out
end Go.Proofs.Ytefhdcecbmgljaa
