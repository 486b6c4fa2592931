/-
  Package flash: what all strings of a list are; CheckCode, checkSigns.
  Package flash: texts, Texts.
  Package flash: Texts.
  awake.
  TopRead: the example of one letter and one triangle.
  Thin, list, Cut, Net: the laws' copies.
  The reference: In, Fault, rising, has; the laws' fault, asked.
-/
import Derived.Test.YtkloaeaepjoijaaT04
import Derived.Test.YtkloaeaepjoijaaT08
import Derived.Test.YtkloaeaepjoijaaT09
import Derived.Laws.AppendOwnNone
import Derived.Maps.AppendAt
set_option linter.all false
namespace Go.Proofs.Ytkloaeaepjoijaa
section
open Go.RowKit Go.WalkArith
/-- A call that returns true and leaves what was there. -/
def YesP (w : World) (e : Ending) (w' : World) : Prop := e = .returned (.bool true) ∧ Below w.heap.size w w'
def NoP (w : World) (e : Ending) (w' : World) : Prop := e = .returned (.bool false) ∧ Below w.heap.size w w'
def MinusP (w : World) (e : Ending) (w' : World) : Prop := e = .returned (.int .i64 (-1)) ∧ Below w.heap.size w w'
set_option maxRecDepth 100000 in
set_option maxHeartbeats 1000000 in
theorem letter_any (s : ByteArray) (w : World) (h : LetOk s) :
    Calls Try.prog 105 #[.agg #[.string ⟨#[46, 45]⟩, .int .i64 4], .string s] w (YesP w) := by
  obtain ⟨h1, h4, hb⟩ := h
  have hw := Lib.hid (fun X => within2_any (s.size : Int) 1 4 X)
  rw [show inB (s.size : Int) 1 4 = true from inB_true.2 (by omega)] at hw
  have hB : Below w.heap.size w (w.alloc (.cells #[.string ⟨#[46, 45]⟩, .int .i64 4] 156)) := (Below.refl _ _).alloc (Nat.le_refl _) _
  have hn := Go.heap_alloc_new w (.cells #[.string ⟨#[46, 45]⟩, .int .i64 4] 156)
  go_enter Try.func105, Try.ntmps105
  go_wp2_with fail
  generalize w.alloc (.cells #[.string ⟨#[46, 45]⟩, .int .i64 4] 156) = w1 at hB hn ⊢
  obtain ⟨cap, w2, hcv, hby, hb2⟩ := bytes_conv w1 s
  have c0 : w1.cell? ⟨w.heap.size, 0, none⟩ = some (.string ⟨#[46, 45]⟩) := by simp only [World.cell?, hn]; rfl
  have c1 : w1.cell? ⟨w.heap.size, 1, none⟩ = some (.int .i64 4) := by simp only [World.cell?, hn]; rfl
  have d0 := cell_later hb2 c0
  have d1 := cell_later hb2 c1
  have HC := Lib.hid (all111_any ⟨#[46, 45]⟩ s 4 w1.heap.size cap w2 (fun x hx => inS2 (hb x hx)) (by omega) hby)
  have HB := Lib.hid (hB.trans (hb2.mono hB.size))
  clear hb hB hn hby hb2
  go_wp2_with fail
  refine (hw.out _).mono ?_
  rintro e w' ⟨rfl, rfl⟩
  clear hw
  go_wp2_with fail
  refine HC.out.mono ?_
  rintro e w3 ⟨rfl, hb3⟩
  have HB3 := Lib.hid (HB.out.trans (hb3.mono HB.out.size))
  clear hb3 HC HB
  go_wp2_with fail
  go_ret
  exact ⟨rfl, HB3.out⟩
set_option maxHeartbeats 1000000 in
theorem notStrL_any (fb fq : Nat) (c : ByteArray) (w : World) (hcall : Calls Try.prog 105 #[.agg #[.string ⟨#[46, 45]⟩, .int .i64 4], .string c] w (YesP w)) (hf : w.cell? ⟨fb, 0, none⟩ = some (.func (.func 105) #[.agg #[.string ⟨#[46, 45]⟩, .int .i64 4]] #[])) :
    Calls Try.prog 124 #[.string c, .pointer (some ⟨fb, 0, none⟩)] w (NoP w) := by
  have HC := Lib.hid hcall
  clear hcall
  go_enter Try.func124, Try.ntmps124
  go_wp2_with fail
  refine HC.out.mono ?_
  rintro e w' ⟨rfl, hb⟩
  have HB := Lib.hid hb
  clear hb hf HC
  go_wp2_with fail
  go_ret
  exact ⟨rfl, HB.out⟩
set_option maxRecDepth 100000 in
set_option maxHeartbeats 1000000 in
theorem indexStrL_any (fb fq : Nat) (A : Option Addr) (cap : Nat) (cs : List ByteArray) (w : World) (hA : StrsAt w A cs) (hn : cs.length ≤ 1000) (hcall : ∀ W', Below w.heap.size w W' → ∀ c ∈ cs, Calls Try.prog 105 #[.agg #[.string ⟨#[46, 45]⟩, .int .i64 4], .string c] W' (YesP W')) (hf : w.cell? ⟨fb, 0, none⟩ = some (.func (.func 105) #[.agg #[.string ⟨#[46, 45]⟩, .int .i64 4]] #[])) :
    Calls Try.prog 133 #[.slice A cs.length cap, .func (.func 124) #[] #[.pointer (some ⟨fb, 0, none⟩)]] w (MinusP w) := by
  have HC := Lib.hid hcall
  have HA := Lib.hid hA
  have HF := Lib.hid hf
  clear hcall hA hf
  go_enter Try.func133, Try.ntmps133
  go_wp2_with fail
  go_loopw [8] (fun i wr => ∃ k : Nat, k ≤ cs.length ∧ i = .int .i64 k ∧ Below w.heap.size w wr) (fun i _ => cs.length - (intOf i).toNat)
  case atStart => exact ⟨0, by omega, rfl, Below.refl _ _⟩
  case round =>
    obtain ⟨k, hk, rfl, hbe⟩ := hrel
    have HBE := Lib.hid hbe
    by_cases hlt : k < cs.length
    · have hlt' : decide ((k : Int) < (cs.length : Int)) = true := by simpa using hlt
      obtain ⟨b, o, rfl, hc0⟩ := HA.out.at hlt
      have c0 := cell_later hbe hc0
      have hcc := HC.out wr hbe cs[k] (List.getElem_mem hlt)
      obtain ⟨c, hc⟩ : ∃ c, cs[k] = c := ⟨_, rfl⟩
      rw [hc] at c0 hcc
      have hno := Lib.hid (notStrL_any fb fq c wr hcc (cell_later hbe HF.out))
      have i0 : (0 : Int) ≤ (k : Int) := by omega
      have i1 : (k : Int) < (cs.length : Int) := by omega
      clear hbe hc hcc hc0
      go_wp2_with fail
      refine hno.out.mono ?_
      rintro e w' ⟨rfl, hb⟩
      have HB2 := Lib.hid (HBE.out.trans (hb.mono HBE.out.size))
      clear hb c0 hno
      go_wp2_with fail
      go_roundw
      case rel => exact ⟨k + 1, by omega, by go_num, HB2.out⟩
      case measure => simp [intOf]; omega
    · have hlt' : decide ((k : Int) < (cs.length : Int)) = false := by simpa using hlt
      clear hbe
      go_wp2_with fail
      go_ret
      exact ⟨rfl, HBE.out⟩
theorem containsStrL_any (fb fq : Nat) (A : Option Addr) (cap : Nat) (cs : List ByteArray) (w : World) (hA : StrsAt w A cs) (hn : cs.length ≤ 1000) (hcall : ∀ W', Below w.heap.size w W' → ∀ c ∈ cs, Calls Try.prog 105 #[.agg #[.string ⟨#[46, 45]⟩, .int .i64 4], .string c] W' (YesP W')) (hf : w.cell? ⟨fb, 0, none⟩ = some (.func (.func 105) #[.agg #[.string ⟨#[46, 45]⟩, .int .i64 4]] #[])) :
    Calls Try.prog 123 #[.slice A cs.length cap, .func (.func 124) #[] #[.pointer (some ⟨fb, 0, none⟩)]] w (NoP w) := by
  have hc := Lib.hid (indexStrL_any fb fq A cap cs w hA hn hcall hf)
  clear hA hcall hf
  go_enter Try.func123, Try.ntmps123
  go_wp2_with fail
  refine hc.out.mono ?_
  rintro e w' ⟨rfl, hb⟩
  have HB := Lib.hid hb
  clear hb
  go_wp2_with fail
  go_ret
  exact ⟨rfl, HB.out⟩
theorem allStrL_any (fq : Nat) (A : Option Addr) (cap : Nat) (cs : List ByteArray) (w : World) (hA : StrsAt w A cs) (hn : cs.length ≤ 1000) (hcall : ∀ W', Below w.heap.size w W' → ∀ c ∈ cs, Calls Try.prog 105 #[.agg #[.string ⟨#[46, 45]⟩, .int .i64 4], .string c] W' (YesP W')) :
    Calls Try.prog 106 #[.slice A cs.length cap, .func (.func 105) #[.agg #[.string ⟨#[46, 45]⟩, .int .i64 4]] #[]] w (YesP w) := by
  have hB : Below w.heap.size w (w.alloc (.cells #[.func (.func 105) #[.agg #[.string ⟨#[46, 45]⟩, .int .i64 4]] #[]] 154)) := (Below.refl _ _).alloc (Nat.le_refl _) _
  have hc := Lib.hid (containsStrL_any w.heap.size fq A cap cs (w.alloc (.cells #[.func (.func 105) #[.agg #[.string ⟨#[46, 45]⟩, .int .i64 4]] #[]] 154)) (hA.keep hB (Nat.le_refl _)) hn (fun W' hW => hcall W' (hB.trans (hW.mono hB.size))) (by
    have := Go.heap_alloc_new w (.cells #[.func (.func 105) #[.agg #[.string ⟨#[46, 45]⟩, .int .i64 4]] #[]] 154)
    simp only [World.cell?, this]; rfl))
  have HB := Lib.hid hB
  clear hA hcall hB
  go_enter Try.func106, Try.ntmps106
  go_wp2_with fail
  refine hc.out.mono ?_
  rintro e w' ⟨rfl, hb⟩
  have HB2 := Lib.hid (HB.out.trans (hb.mono HB.out.size))
  clear hb
  go_wp2_with fail
  go_ret
  exact ⟨rfl, HB2.out⟩
set_option maxHeartbeats 1000000 in
theorem notStrS_any (fb fq : Nat) (c : ByteArray) (w : World) (hcall : Calls Try.prog 108 #[.string c] w (YesP w)) (hf : w.cell? ⟨fb, 0, none⟩ = some (.func (.func 108) #[] #[])) :
    Calls Try.prog 124 #[.string c, .pointer (some ⟨fb, 0, none⟩)] w (NoP w) := by
  have HC := Lib.hid hcall
  clear hcall
  go_enter Try.func124, Try.ntmps124
  go_wp2_with fail
  refine HC.out.mono ?_
  rintro e w' ⟨rfl, hb⟩
  have HB := Lib.hid hb
  clear hb hf HC
  go_wp2_with fail
  go_ret
  exact ⟨rfl, HB.out⟩
set_option maxRecDepth 100000 in
set_option maxHeartbeats 1000000 in
theorem indexStrS_any (fb fq : Nat) (A : Option Addr) (cap : Nat) (cs : List ByteArray) (w : World) (hA : StrsAt w A cs) (hn : cs.length ≤ 1000) (hcall : ∀ W', Below w.heap.size w W' → ∀ c ∈ cs, Calls Try.prog 108 #[.string c] W' (YesP W')) (hf : w.cell? ⟨fb, 0, none⟩ = some (.func (.func 108) #[] #[])) :
    Calls Try.prog 133 #[.slice A cs.length cap, .func (.func 124) #[] #[.pointer (some ⟨fb, 0, none⟩)]] w (MinusP w) := by
  have HC := Lib.hid hcall
  have HA := Lib.hid hA
  have HF := Lib.hid hf
  clear hcall hA hf
  go_enter Try.func133, Try.ntmps133
  go_wp2_with fail
  go_loopw [8] (fun i wr => ∃ k : Nat, k ≤ cs.length ∧ i = .int .i64 k ∧ Below w.heap.size w wr) (fun i _ => cs.length - (intOf i).toNat)
  case atStart => exact ⟨0, by omega, rfl, Below.refl _ _⟩
  case round =>
    obtain ⟨k, hk, rfl, hbe⟩ := hrel
    have HBE := Lib.hid hbe
    by_cases hlt : k < cs.length
    · have hlt' : decide ((k : Int) < (cs.length : Int)) = true := by simpa using hlt
      obtain ⟨b, o, rfl, hc0⟩ := HA.out.at hlt
      have c0 := cell_later hbe hc0
      have hcc := HC.out wr hbe cs[k] (List.getElem_mem hlt)
      obtain ⟨c, hc⟩ : ∃ c, cs[k] = c := ⟨_, rfl⟩
      rw [hc] at c0 hcc
      have hno := Lib.hid (notStrS_any fb fq c wr hcc (cell_later hbe HF.out))
      have i0 : (0 : Int) ≤ (k : Int) := by omega
      have i1 : (k : Int) < (cs.length : Int) := by omega
      clear hbe hc hcc hc0
      go_wp2_with fail
      refine hno.out.mono ?_
      rintro e w' ⟨rfl, hb⟩
      have HB2 := Lib.hid (HBE.out.trans (hb.mono HBE.out.size))
      clear hb c0 hno
      go_wp2_with fail
      go_roundw
      case rel => exact ⟨k + 1, by omega, by go_num, HB2.out⟩
      case measure => simp [intOf]; omega
    · have hlt' : decide ((k : Int) < (cs.length : Int)) = false := by simpa using hlt
      clear hbe
      go_wp2_with fail
      go_ret
      exact ⟨rfl, HBE.out⟩
theorem containsStrS_any (fb fq : Nat) (A : Option Addr) (cap : Nat) (cs : List ByteArray) (w : World) (hA : StrsAt w A cs) (hn : cs.length ≤ 1000) (hcall : ∀ W', Below w.heap.size w W' → ∀ c ∈ cs, Calls Try.prog 108 #[.string c] W' (YesP W')) (hf : w.cell? ⟨fb, 0, none⟩ = some (.func (.func 108) #[] #[])) :
    Calls Try.prog 123 #[.slice A cs.length cap, .func (.func 124) #[] #[.pointer (some ⟨fb, 0, none⟩)]] w (NoP w) := by
  have hc := Lib.hid (indexStrS_any fb fq A cap cs w hA hn hcall hf)
  clear hA hcall hf
  go_enter Try.func123, Try.ntmps123
  go_wp2_with fail
  refine hc.out.mono ?_
  rintro e w' ⟨rfl, hb⟩
  have HB := Lib.hid hb
  clear hb
  go_wp2_with fail
  go_ret
  exact ⟨rfl, HB.out⟩
theorem allStrS_any (fq : Nat) (A : Option Addr) (cap : Nat) (cs : List ByteArray) (w : World) (hA : StrsAt w A cs) (hn : cs.length ≤ 1000) (hcall : ∀ W', Below w.heap.size w W' → ∀ c ∈ cs, Calls Try.prog 108 #[.string c] W' (YesP W')) :
    Calls Try.prog 106 #[.slice A cs.length cap, .func (.func 108) #[] #[]] w (YesP w) := by
  have hB : Below w.heap.size w (w.alloc (.cells #[.func (.func 108) #[] #[]] 154)) := (Below.refl _ _).alloc (Nat.le_refl _) _
  have hc := Lib.hid (containsStrS_any w.heap.size fq A cap cs (w.alloc (.cells #[.func (.func 108) #[] #[]] 154)) (hA.keep hB (Nat.le_refl _)) hn (fun W' hW => hcall W' (hB.trans (hW.mono hB.size))) (by
    have := Go.heap_alloc_new w (.cells #[.func (.func 108) #[] #[]] 154)
    simp only [World.cell?, this]; rfl))
  have HB := Lib.hid hB
  clear hA hcall hB
  go_enter Try.func106, Try.ntmps106
  go_wp2_with fail
  refine hc.out.mono ?_
  rintro e w' ⟨rfl, hb⟩
  have HB2 := Lib.hid (HB.out.trans (hb.mono HB.out.size))
  clear hb
  go_wp2_with fail
  go_ret
  exact ⟨rfl, HB2.out⟩
set_option maxHeartbeats 1000000 in
theorem notStrT_any (fb fq : Nat) (c : ByteArray) (w : World) (hcall : Calls Try.prog 110 #[.string c, .pointer (some ⟨fq, 0, none⟩)] w (YesP w)) (hf : w.cell? ⟨fb, 0, none⟩ = some (.func (.func 110) #[] #[.pointer (some ⟨fq, 0, none⟩)])) :
    Calls Try.prog 124 #[.string c, .pointer (some ⟨fb, 0, none⟩)] w (NoP w) := by
  have HC := Lib.hid hcall
  clear hcall
  go_enter Try.func124, Try.ntmps124
  go_wp2_with fail
  refine HC.out.mono ?_
  rintro e w' ⟨rfl, hb⟩
  have HB := Lib.hid hb
  clear hb hf HC
  go_wp2_with fail
  go_ret
  exact ⟨rfl, HB.out⟩
set_option maxRecDepth 100000 in
set_option maxHeartbeats 1000000 in
theorem indexStrT_any (fb fq : Nat) (A : Option Addr) (cap : Nat) (cs : List ByteArray) (w : World) (hA : StrsAt w A cs) (hn : cs.length ≤ 1000) (hcall : ∀ W', Below w.heap.size w W' → ∀ c ∈ cs, Calls Try.prog 110 #[.string c, .pointer (some ⟨fq, 0, none⟩)] W' (YesP W')) (hf : w.cell? ⟨fb, 0, none⟩ = some (.func (.func 110) #[] #[.pointer (some ⟨fq, 0, none⟩)])) :
    Calls Try.prog 133 #[.slice A cs.length cap, .func (.func 124) #[] #[.pointer (some ⟨fb, 0, none⟩)]] w (MinusP w) := by
  have HC := Lib.hid hcall
  have HA := Lib.hid hA
  have HF := Lib.hid hf
  clear hcall hA hf
  go_enter Try.func133, Try.ntmps133
  go_wp2_with fail
  go_loopw [8] (fun i wr => ∃ k : Nat, k ≤ cs.length ∧ i = .int .i64 k ∧ Below w.heap.size w wr) (fun i _ => cs.length - (intOf i).toNat)
  case atStart => exact ⟨0, by omega, rfl, Below.refl _ _⟩
  case round =>
    obtain ⟨k, hk, rfl, hbe⟩ := hrel
    have HBE := Lib.hid hbe
    by_cases hlt : k < cs.length
    · have hlt' : decide ((k : Int) < (cs.length : Int)) = true := by simpa using hlt
      obtain ⟨b, o, rfl, hc0⟩ := HA.out.at hlt
      have c0 := cell_later hbe hc0
      have hcc := HC.out wr hbe cs[k] (List.getElem_mem hlt)
      obtain ⟨c, hc⟩ : ∃ c, cs[k] = c := ⟨_, rfl⟩
      rw [hc] at c0 hcc
      have hno := Lib.hid (notStrT_any fb fq c wr hcc (cell_later hbe HF.out))
      have i0 : (0 : Int) ≤ (k : Int) := by omega
      have i1 : (k : Int) < (cs.length : Int) := by omega
      clear hbe hc hcc hc0
      go_wp2_with fail
      refine hno.out.mono ?_
      rintro e w' ⟨rfl, hb⟩
      have HB2 := Lib.hid (HBE.out.trans (hb.mono HBE.out.size))
      clear hb c0 hno
      go_wp2_with fail
      go_roundw
      case rel => exact ⟨k + 1, by omega, by go_num, HB2.out⟩
      case measure => simp [intOf]; omega
    · have hlt' : decide ((k : Int) < (cs.length : Int)) = false := by simpa using hlt
      clear hbe
      go_wp2_with fail
      go_ret
      exact ⟨rfl, HBE.out⟩
theorem containsStrT_any (fb fq : Nat) (A : Option Addr) (cap : Nat) (cs : List ByteArray) (w : World) (hA : StrsAt w A cs) (hn : cs.length ≤ 1000) (hcall : ∀ W', Below w.heap.size w W' → ∀ c ∈ cs, Calls Try.prog 110 #[.string c, .pointer (some ⟨fq, 0, none⟩)] W' (YesP W')) (hf : w.cell? ⟨fb, 0, none⟩ = some (.func (.func 110) #[] #[.pointer (some ⟨fq, 0, none⟩)])) :
    Calls Try.prog 123 #[.slice A cs.length cap, .func (.func 124) #[] #[.pointer (some ⟨fb, 0, none⟩)]] w (NoP w) := by
  have hc := Lib.hid (indexStrT_any fb fq A cap cs w hA hn hcall hf)
  clear hA hcall hf
  go_enter Try.func123, Try.ntmps123
  go_wp2_with fail
  refine hc.out.mono ?_
  rintro e w' ⟨rfl, hb⟩
  have HB := Lib.hid hb
  clear hb
  go_wp2_with fail
  go_ret
  exact ⟨rfl, HB.out⟩
theorem allStrT_any (fq : Nat) (A : Option Addr) (cap : Nat) (cs : List ByteArray) (w : World) (hA : StrsAt w A cs) (hn : cs.length ≤ 1000) (hcall : ∀ W', Below w.heap.size w W' → ∀ c ∈ cs, Calls Try.prog 110 #[.string c, .pointer (some ⟨fq, 0, none⟩)] W' (YesP W')) :
    Calls Try.prog 106 #[.slice A cs.length cap, .func (.func 110) #[] #[.pointer (some ⟨fq, 0, none⟩)]] w (YesP w) := by
  have hB : Below w.heap.size w (w.alloc (.cells #[.func (.func 110) #[] #[.pointer (some ⟨fq, 0, none⟩)]] 154)) := (Below.refl _ _).alloc (Nat.le_refl _) _
  have hc := Lib.hid (containsStrT_any w.heap.size fq A cap cs (w.alloc (.cells #[.func (.func 110) #[] #[.pointer (some ⟨fq, 0, none⟩)]] 154)) (hA.keep hB (Nat.le_refl _)) hn (fun W' hW => hcall W' (hB.trans (hW.mono hB.size))) (by
    have := Go.heap_alloc_new w (.cells #[.func (.func 110) #[] #[.pointer (some ⟨fq, 0, none⟩)]] 154)
    simp only [World.cell?, this]; rfl))
  have HB := Lib.hid hB
  clear hA hcall hB
  go_enter Try.func106, Try.ntmps106
  go_wp2_with fail
  refine hc.out.mono ?_
  rintro e w' ⟨rfl, hb⟩
  have HB2 := Lib.hid (HB.out.trans (hb.mono HB.out.size))
  clear hb
  go_wp2_with fail
  go_ret
  exact ⟨rfl, HB2.out⟩
set_option maxRecDepth 100000 in
set_option maxHeartbeats 1000000 in
theorem indexS_any (A : Option Addr) (cap k : Nat) (cs : List ByteArray) (s : ByteArray) (w : World) (hA : StrsAt w A cs) (hk : k ≤ cs.length) (hn : cs.length ≤ 1000) (hne : ∀ j (h : j < cs.length), j < k → nl cs[j] ≠ nl s) :
    Calls Try.prog 125 #[.slice A k cap, .string s] w fun e w' => e = .returned (.int .i64 (-1)) ∧ w = w' := by
  have HA := Lib.hid hA
  have HNE := Lib.hid hne
  clear hA hne
  go_enter Try.func125, Try.ntmps125
  go_wp2_with fail
  go_loop [8] (fun i => ∃ j : Nat, j ≤ k ∧ i = .int .i64 j) (fun i => k - (intOf i).toNat)
  case atStart => exact ⟨0, by omega, rfl⟩
  case round =>
    obtain ⟨j, hj, rfl⟩ := hrel
    by_cases hlt : j < k
    · have hlt' : decide ((j : Int) < (k : Int)) = true := by simpa using hlt
      obtain ⟨b, o, rfl, c0⟩ := HA.out.at (k := j) (by omega)
      have hn2 := HNE.out j (by omega) hlt
      obtain ⟨c, hc⟩ : ∃ c, cs[j]'(by omega) = c := ⟨_, rfl⟩
      rw [hc] at c0 hn2
      have he : (s.toList == c.toList) = false := by rw [str_eq]; simpa using fun e => hn2 e.symm
      have i0 : (0 : Int) ≤ (j : Int) := by omega
      have i1 : (j : Int) < (k : Int) := by omega
      clear hc hn2
      go_wp2_with fail
      go_round
      case rel => exact ⟨j + 1, by omega, by go_num⟩
      case measure => simp [intOf]; omega
    · have hlt' : decide ((j : Int) < (k : Int)) = false := by simpa using hlt
      go_wp2_with fail
      go_ret
      exact ⟨rfl, rfl⟩
theorem containsS_any (A : Option Addr) (cap k : Nat) (cs : List ByteArray) (s : ByteArray) (w : World) (hA : StrsAt w A cs) (hk : k ≤ cs.length) (hn : cs.length ≤ 1000) (hne : ∀ j (h : j < cs.length), j < k → nl cs[j] ≠ nl s) :
    Calls Try.prog 107 #[.slice A k cap, .string s] w fun e w' => e = .returned (.bool false) ∧ w = w' := by
  have hc := Lib.hid (indexS_any A cap k cs s w hA hk hn hne)
  clear hA hne
  go_enter Try.func107, Try.ntmps107
  go_wp2_with fail
  refine hc.out.mono ?_
  rintro e w' ⟨rfl, rfl⟩
  go_wp2_with fail
  go_ret
  exact ⟨rfl, rfl⟩
set_option maxRecDepth 100000 in
set_option maxHeartbeats 2000000 in
theorem checkCode_any (A : Option Addr) (cap : Nat) (cs : List ByteArray) (w : World) (hA : StrsAt w A cs) (hcap : cs.length ≤ cap) (hok : CodeOk cs) :
    Calls Try.prog 88 #[.agg #[.slice A cs.length cap]] w fun e w' => e = .returned (.int .i64 0) ∧ Below w.heap.size w w' := by
  have hB : Below w.heap.size w (w.alloc (.cells #[.slice A cs.length cap] 87)) := (Below.refl _ _).alloc (Nat.le_refl _) _
  have hn := Go.heap_alloc_new w (.cells #[.slice A cs.length cap] 87)
  have h1 := hok.pos
  have h6 := hok.six
  have h0 : ((cs.length : Int) == 0) = false := by rw [beq_eq_false_iff_ne]; omega
  have HO := Lib.hid hok
  have HA := Lib.hid (hA.keep hB (Nat.le_refl _))
  have HB := Lib.hid hB
  clear hok hA hB
  go_enter Try.func88, Try.ntmps88
  go_wp2_with fail
  generalize w.alloc (.cells #[.slice A cs.length cap] 87) = w1 at HA HB hn ⊢
  obtain ⟨Bc, hBc⟩ : ∃ B, w.heap.size = B := ⟨_, rfl⟩
  rw [hBc] at hn ⊢
  have HN := Lib.hid hn
  have c0 : w1.cell? ⟨Bc, 0, none⟩ = some (.slice A cs.length cap) := by simp only [World.cell?, hn]; rfl
  have HAL := Lib.hid (allStrL_any 0 A cap cs w1 HA.out (by omega) (fun W' _ c hc => letter_any c W' (HO.out.letter c hc)))
  clear hn hBc
  go_wp2_with fail
  refine HAL.out.mono ?_
  rintro e w2 ⟨rfl, hb⟩
  have c1 := cell_later hb c0
  have HA2 := Lib.hid (HA.out.keep hb (Nat.le_refl _))
  have HB2 := Lib.hid (HB.out.trans (hb.mono HB.out.size))
  clear hb c0 HAL HA HB HN
  go_wp2_with fail
  go_loop [26] (fun i => ∃ k : Nat, k ≤ cs.length ∧ i = .int .i64 k) (fun i => cs.length - (intOf i).toNat)
  case atStart => exact ⟨0, by omega, rfl⟩
  case round =>
    obtain ⟨k, hk, rfl⟩ := hrel
    by_cases hlt : k < cs.length
    · have hlt' : decide ((k : Int) < (cs.length : Int)) = true := by simpa using hlt
      obtain ⟨b, o, rfl, d0⟩ := HA2.out.at hlt
      have hap := fun j (hj : j < cs.length) (hjk : j < k) => HO.out.apart j k hj hlt hjk
      obtain ⟨s, hs⟩ : ∃ s, cs[k] = s := ⟨_, rfl⟩
      rw [hs] at d0
      have hap2 : ∀ j (h : j < cs.length), j < k → nl cs[j] ≠ nl s := fun j hj hjk => by rw [← hs]; exact hap j hj hjk
      have HCO := Lib.hid (containsS_any (some ⟨b, o, none⟩) cap k cs s w2 HA2.out (by omega) (by omega) hap2)
      have i0 : (0 : Int) ≤ (k : Int) := by omega
      have i1 : (k : Int) < (cs.length : Int) := by omega
      have i2 : (k : Int) ≤ (cap : Int) := by omega
      clear hs hap hap2
      go_wp2_with fail
      refine HCO.out.mono ?_
      rintro e w' ⟨rfl, rfl⟩
      clear HCO
      go_wp2_with fail
      go_round
      case rel => exact ⟨k + 1, by omega, by go_num⟩
      case measure => simp [intOf]; omega
    · have hlt' : decide ((k : Int) < (cs.length : Int)) = false := by simpa using hlt
      go_wp2_with fail
      go_ret
      exact ⟨rfl, HB2.out⟩
theorem short_any (s : ByteArray) (w : World) (h : s.size ≤ 40) : Calls Try.prog 108 #[.string s] w (YesP w) := by
  have h' : decide ((s.size : Int) ≤ 40) = true := by simp; omega
  go_enter Try.func108, Try.ntmps108
  go_wp2_with fail
  go_ret
  exact ⟨rfl, Below.refl _ _⟩
set_option maxRecDepth 100000 in
set_option maxHeartbeats 1000000 in
theorem signsOk_any (s : ByteArray) (fq : Nat) (w : World) (h : s.size ≤ 40) (hs : ∀ x ∈ nl s, x = 46 ∨ x = 45 ∨ x = 32) (hf : w.cell? ⟨fq, 0, none⟩ = some (.func (.func 109) #[.agg #[.string ⟨#[46, 45, 32]⟩, .int .i64 0]] #[])) : Calls Try.prog 110 #[.string s, .pointer (some ⟨fq, 0, none⟩)] w (YesP w) := by
  obtain ⟨cap, w2, hcv, hby, hb2⟩ := bytes_conv w s
  have HC := Lib.hid (all111_any ⟨#[46, 45, 32]⟩ s 0 w.heap.size cap w2 (fun x hx => inS3 (hs x hx)) (by omega) hby)
  have d0 := cell_later hb2 hf
  have HB := Lib.hid hb2
  clear hb2 hby hs
  go_enter Try.func110, Try.ntmps110
  go_wp2_with fail
  refine HC.out.mono ?_
  rintro e w3 ⟨rfl, hb3⟩
  have HB3 := Lib.hid (HB.out.trans (hb3.mono HB.out.size))
  clear hb3 HC HB
  go_wp2_with fail
  go_ret
  exact ⟨rfl, HB3.out⟩
set_option maxRecDepth 100000 in
set_option maxHeartbeats 1000000 in
theorem checkSigns_any (s : ByteArray) (g cap : Nat) (w : World) (h : s.size ≤ 40) (hs : ∀ x ∈ nl s, x = 46 ∨ x = 45 ∨ x = 32) (hc : w.cell? ⟨g, 0, none⟩ = some (.string s)) :
    Calls Try.prog 89 #[.slice (some ⟨g, 0, none⟩) 1 cap] w fun e w' => e = .returned (.int .i64 0) ∧ Below w.heap.size w w' := by
  have hA : StrsAt w (some ⟨g, 0, none⟩) [s] := .inr ⟨g, 0, rfl, fun i hi => by
    have : i = 0 := by simp at hi; exact hi
    subst this
    exact hc⟩
  have H1 := Lib.hid (allStrS_any 0 (some ⟨g, 0, none⟩) cap [s] w hA (by simp) (fun W' _ c hc => by
    obtain rfl := List.mem_singleton.1 hc
    exact short_any c W' h))
  rw [show ([s] : List ByteArray).length = 1 from rfl] at H1
  have HA := Lib.hid hA
  have HS := Lib.hid hs
  clear hA hs hc
  go_enter Try.func89, Try.ntmps89
  go_wp2_with fail
  refine H1.out.mono ?_
  rintro e w1 ⟨rfl, hb1⟩
  have hB2 : Below w.heap.size w (w1.alloc (.cells #[.func (.func 109) #[.agg #[.string ⟨#[46, 45, 32]⟩, .int .i64 0]] #[]] 159)) := hb1.alloc hb1.size _
  have hn := Go.heap_alloc_new w1 (.cells #[.func (.func 109) #[.agg #[.string ⟨#[46, 45, 32]⟩, .int .i64 0]] #[]] 159)
  have c0 : (w1.alloc (.cells #[.func (.func 109) #[.agg #[.string ⟨#[46, 45, 32]⟩, .int .i64 0]] #[]] 159)).cell? ⟨w1.heap.size, 0, none⟩ = some (.func (.func 109) #[.agg #[.string ⟨#[46, 45, 32]⟩, .int .i64 0]] #[]) := by simp only [World.cell?, hn]; rfl
  have H2 := Lib.hid (allStrT_any w1.heap.size (some ⟨g, 0, none⟩) cap [s] _ (HA.out.keep hB2 (Nat.le_refl _)) (by simp) (fun W' hW c hc => by
    obtain rfl := List.mem_singleton.1 hc
    exact signsOk_any c w1.heap.size W' h HS.out (cell_later hW c0)))
  rw [show ([s] : List ByteArray).length = 1 from rfl] at H2
  have HB2 := Lib.hid hB2
  clear hb1 hB2 hn c0 H1
  go_wp2_with fail
  refine H2.out.mono ?_
  rintro e w2 ⟨rfl, hb2⟩
  have HB3 := Lib.hid (HB2.out.trans (hb2.mono HB2.out.size))
  clear hb2 H2
  go_wp2_with fail
  go_ret
  exact ⟨rfl, HB3.out⟩
end
end Go.Proofs.Ytkloaeaepjoijaa
namespace Go.Proofs.Ytkloaeaepjoijaa
section
open Go.RowKit Go.WalkArith
theorem rowT_join {W W' : World} {base : Nat} {P : Nat → Prop} {v v' : Value} {ls ms : List (List Nat)} {vs us : List Value} (h1 : vs.length = ls.length) (h2 : W.ownsRow base 25 1 v ls.length vs) (h3 : ∀ i (h : i < ls.length), ∃ u, vs[i]? = some u ∧ ElT W (fun g => P g ∧ v.ownBlock ≠ some g) u ls[i])
    (k1 : us.length = ms.length) (k3 : ∀ i (h : i < ms.length), ∃ u, us[i]? = some u ∧ ElT W (fun g => P g ∧ v.ownBlock ≠ some g) u ms[i])
    (a1 : W'.ownsRow base 25 1 v' (ls.length + ms.length) (vs ++ us)) (a2 : W.grownBy W' v.ownBlock) (a3 : v'.ownBlock = v.ownBlock ∨ v'.ownBlock = some W.heap.size) : RowT W' base P v' (ls ++ ms) := by
  have hel : ∀ u t, ElT W (fun g => P g ∧ v.ownBlock ≠ some g) u t → ElT W' (fun k => P k ∧ v'.ownBlock ≠ some k) u t := fun u t h => h.of (fun k hk hp => a2.block k hk (fun e => hp.2 e.symm)) a2.size (fun k hk hp => ⟨hp.1, fun e => by
    rcases a3 with a3 | a3
    · exact hp.2 (by rw [← a3]; exact e)
    · rw [a3] at e; have : W.heap.size = k := by simpa using e
      omega⟩)
  refine ⟨vs ++ us, by simp [h1, k1], by rw [List.length_append]; exact a1, fun i hi => ?_⟩
  by_cases e : i < ls.length
  · obtain ⟨u, h4, h5⟩ := h3 i e
    refine ⟨u, by rw [List.getElem?_append_left (by omega)]; exact h4, ?_⟩
    rw [List.getElem_append_left e]
    exact hel _ _ h5
  · have hi' : i - ls.length < ms.length := by simp at hi; omega
    obtain ⟨u, h4, h5⟩ := k3 (i - ls.length) hi'
    refine ⟨u, by rw [List.getElem?_append_right (by omega), h1]; exact h4, ?_⟩
    rw [List.getElem_append_right (by omega)]
    exact hel _ _ h5
section
variable {w : World} {ops : Array Oper} {rest : List Oper} {o : Oper} {a : Act} {Q : Exit → Act → World → Prop}
set_option maxRecDepth 100000 in
/-- A row of texts is appended to a row of texts. -/
theorem wpList_app_rows (hgd : o.guard = none) (s x : Operand) (ho : o.op = .call { callee := .builtin .append, args := #[s, x], argTypes := #[84, 84] }) (base : Nat) (P : Nat → Prop) (v : Value) (ls : List (List Nat)) (hs : a.eval s = v) (hown : RowT w base P v ls)
    (base2 : Nat) (P2 : Nat → Prop) (v2 : Value) (ms : List (List Nat)) (hx : a.eval x = v2) (h2 : RowT w base2 P2 v2 ms) (hp : ∀ g, P2 g → P g ∧ v.ownBlock ≠ some g) (hn : ls.length + ms.length ≤ 1000000) (hbase : base ≤ w.heap.size)
    (h : ∀ v' w', RowT w' base P v' (ls ++ ms) → w.grownBy w' v.ownBlock → wpList Try.prog ops Q rest (a.put o.dst v') w') : wpList Try.prog ops Q (o :: rest) a w := by
  obtain ⟨i0, hi0, hz0, hz1, hz2⟩ := info_parts Try.info25
  obtain ⟨vs, h1, k2, h3⟩ := hown
  obtain ⟨us, m1, m2, m3⟩ := h2
  have m3' : ∀ i (h : i < ms.length), ∃ u, us[i]? = some u ∧ ElT w (fun g => P g ∧ v.ownBlock ≠ some g) u ms[i] := fun i hi => by
    obtain ⟨u, q1, q2⟩ := m3 i hi
    exact ⟨u, q1, q2.of (fun _ _ _ => rfl) (Nat.le_refl _) (fun g _ hg => hp g hg.1)⟩
  rcases m2.2 with ⟨hv2, h0⟩ | ⟨g, cap, cur, hv2, b1, b2, b3, b4, b5, b6⟩
  · have hms : ms = [] := List.length_eq_zero_iff.1 h0
    subst hv2
    refine wpList_append_own_none hgd s x 84 ho base 25 i0 1 Try.underlying84 hi0 v ls.length vs hs k2 hx (h v w ?_ ⟨rfl, rfl, rfl, Nat.le_refl _, fun _ _ _ => rfl⟩)
    rw [hms, List.append_nil]
    exact ⟨vs, h1, k2, h3⟩
  · subst hv2
    refine wpList_append_own_at w hgd s x 84 ho base 25 i0 (.slice none 0 0) 1 24 Try.underlying84 hi0 hz0 hz1 hz2 rfl (by decide) v ls.length vs hs k2 ⟨g, 0, none⟩ ms.length cap us hx (by rw [m1]; omega) (m2.cells rfl) (fun u hu => ?_) (by unfold maxLen; omega) (by omega) hbase ?_
    · obtain ⟨i, hi, rfl⟩ := List.mem_iff_getElem.1 hu
      obtain ⟨u, q1, q2⟩ := m3 i (by omega)
      rw [List.getElem?_eq_getElem hi] at q1
      injection q1 with q1
      rw [q1]; exact q2.one
    · intro v' w' a1 a2 _ a4
      exact h v' w' (rowT_join h1 k2 h3 m1 m3' a1 a2 a4) a2
end
def TsPost (w : World) (ls : List (List Nat)) (e : Ending) (w' : World) : Prop := ∃ v base, e = .returned v ∧ w.heap.size ≤ base ∧ RowT w' base (fun g => base ≤ g) v ls ∧ Below w.heap.size w w'
set_option maxRecDepth 100000 in
set_option maxHeartbeats 4000000 in
theorem texts_any (A : Option Addr) (cap : Nat) (cs : List ByteArray) (rd : ByteArray) (er : Int) (m : Nat) (w : World) (hA : StrsAt w A cs) (hl : rd.size ≤ 40) (he : 0 ≤ er) (hm : m ≤ 5) (hc6 : cs.length ≤ 6) (hc4 : ∀ c ∈ cs, c.size ≤ 4) :
    Calls Try.prog 91 #[.agg #[.slice A cs.length cap, .string rd, .int .i64 er], .int .i64 m] w (TsPost w (txL (cl cs) (nl rd) er m [] [])) := by
  obtain ⟨Bt, hBt⟩ : ∃ B, w.heap.size = B := ⟨_, rfl⟩
  have hb0 : Below w.heap.size w ((((w.alloc (.cells #[.slice A cs.length cap, .string rd, .int .i64 er] 134)).alloc (.cells #[.int .i64 (m : Int)] 3)).alloc (.cells #[.slice none 0 0] 84)).alloc (.cells #[.func (.func 112) #[] #[.pointer (some ⟨Bt, 0, none⟩), .pointer (some ⟨Bt + 1, 0, none⟩), .pointer (some ⟨Bt + 1 + 1, 0, none⟩), .pointer (some ⟨Bt + 1 + 1 + 1, 0, none⟩)]] 162)) := ((((Below.refl _ _).alloc (Nat.le_refl _) _).alloc (by simp) _).alloc (by simp <;> omega) _).alloc (by simp <;> omega) _
  have hn0 : ((((w.alloc (.cells #[.slice A cs.length cap, .string rd, .int .i64 er] 134)).alloc (.cells #[.int .i64 (m : Int)] 3)).alloc (.cells #[.slice none 0 0] 84)).alloc (.cells #[.func (.func 112) #[] #[.pointer (some ⟨Bt, 0, none⟩), .pointer (some ⟨Bt + 1, 0, none⟩), .pointer (some ⟨Bt + 1 + 1, 0, none⟩), .pointer (some ⟨Bt + 1 + 1 + 1, 0, none⟩)]] 162)).heap[w.heap.size]? = some (.cells #[.slice A cs.length cap, .string rd, .int .i64 er] 134 (0, 0)) := (Below.heap_alloc _ _ _ (by simp <;> omega)).trans ((Below.heap_alloc _ _ _ (by simp <;> omega)).trans ((Below.heap_alloc _ _ _ (by simp <;> omega)).trans (heap_new_at _ _ _ rfl)))
  have hn1 : ((((w.alloc (.cells #[.slice A cs.length cap, .string rd, .int .i64 er] 134)).alloc (.cells #[.int .i64 (m : Int)] 3)).alloc (.cells #[.slice none 0 0] 84)).alloc (.cells #[.func (.func 112) #[] #[.pointer (some ⟨Bt, 0, none⟩), .pointer (some ⟨Bt + 1, 0, none⟩), .pointer (some ⟨Bt + 1 + 1, 0, none⟩), .pointer (some ⟨Bt + 1 + 1 + 1, 0, none⟩)]] 162)).heap[w.heap.size + 1]? = some (.cells #[.int .i64 (m : Int)] 3 (0, 0)) := (Below.heap_alloc _ _ _ (by simp <;> omega)).trans ((Below.heap_alloc _ _ _ (by simp <;> omega)).trans (heap_new_at _ _ _ (by simp)))
  have hn2 : ((((w.alloc (.cells #[.slice A cs.length cap, .string rd, .int .i64 er] 134)).alloc (.cells #[.int .i64 (m : Int)] 3)).alloc (.cells #[.slice none 0 0] 84)).alloc (.cells #[.func (.func 112) #[] #[.pointer (some ⟨Bt, 0, none⟩), .pointer (some ⟨Bt + 1, 0, none⟩), .pointer (some ⟨Bt + 1 + 1, 0, none⟩), .pointer (some ⟨Bt + 1 + 1 + 1, 0, none⟩)]] 162)).heap[w.heap.size + 1 + 1]? = some (.cells #[.slice none 0 0] 84 (0, 0)) := (Below.heap_alloc _ _ _ (by simp <;> omega)).trans (heap_new_at _ _ _ (by simp))
  have hn3 : ((((w.alloc (.cells #[.slice A cs.length cap, .string rd, .int .i64 er] 134)).alloc (.cells #[.int .i64 (m : Int)] 3)).alloc (.cells #[.slice none 0 0] 84)).alloc (.cells #[.func (.func 112) #[] #[.pointer (some ⟨Bt, 0, none⟩), .pointer (some ⟨Bt + 1, 0, none⟩), .pointer (some ⟨Bt + 1 + 1, 0, none⟩), .pointer (some ⟨Bt + 1 + 1 + 1, 0, none⟩)]] 162)).heap[w.heap.size + 1 + 1 + 1]? = some (.cells #[.func (.func 112) #[] #[.pointer (some ⟨Bt, 0, none⟩), .pointer (some ⟨Bt + 1, 0, none⟩), .pointer (some ⟨Bt + 1 + 1, 0, none⟩), .pointer (some ⟨Bt + 1 + 1 + 1, 0, none⟩)]] 162 (0, 0)) := heap_new_at _ _ _ (by simp)
  obtain ⟨W1, hW1⟩ : ∃ W, ((((w.alloc (.cells #[.slice A cs.length cap, .string rd, .int .i64 er] 134)).alloc (.cells #[.int .i64 (m : Int)] 3)).alloc (.cells #[.slice none 0 0] 84)).alloc (.cells #[.func (.func 112) #[] #[.pointer (some ⟨Bt, 0, none⟩), .pointer (some ⟨Bt + 1, 0, none⟩), .pointer (some ⟨Bt + 1 + 1, 0, none⟩), .pointer (some ⟨Bt + 1 + 1 + 1, 0, none⟩)]] 162)) = W := ⟨_, rfl⟩
  rw [hW1] at hb0 hn0 hn1 hn2 hn3
  rw [hBt] at hn0 hn1 hn2 hn3
  have HB1 := Lib.hid hb0
  have HN0 := Lib.hid hn0
  have HN1 := Lib.hid hn1
  have HN2 := Lib.hid hn2
  have HN3 := Lib.hid hn3
  have HA := Lib.hid hA
  have HC4 := Lib.hid hc4
  clear hb0 hn0 hn1 hn2 hn3 hA hc4
  go_enter Try.func91, Try.ntmps91
  go_upto_region 3 with fail
  try rw [hW1]
  have HBT := Lib.hid hBt
  clear hW1 hBt
  obtain ⟨Bl, hBl⟩ : ∃ B, Bt + 1 = B := ⟨_, rfl⟩
  rw [hBl] at HN1 HN2 HN3 ⊢
  obtain ⟨Bo, hBo⟩ : ∃ B, Bl + 1 = B := ⟨_, rfl⟩
  rw [hBo] at HN2 HN3 ⊢
  obtain ⟨Bf, hBf⟩ : ∃ B, Bo + 1 = B := ⟨_, rfl⟩
  rw [hBf] at HN3 ⊢
  have o1 : Bt ≠ Bo := by omega
  have o2 : Bl ≠ Bo := by omega
  have o3 : Bf ≠ Bo := by omega
  have o4 : w.heap.size ≤ Bo := by have := HBT.out; omega
  have t0 : W1.cell? ⟨Bt, 0, none⟩ = some (.slice A cs.length cap) := by simp only [World.cell?, HN0.out]; rfl
  have t1 : W1.cell? ⟨Bt, 1, none⟩ = some (.string rd) := by simp only [World.cell?, HN0.out]; rfl
  have t2 : W1.cell? ⟨Bt, 2, none⟩ = some (.int .i64 er) := by simp only [World.cell?, HN0.out]; rfl
  have t3 : W1.cell? ⟨Bf, 0, none⟩ = some (.func (.func 112) #[] #[.pointer (some ⟨Bt, 0, none⟩), .pointer (some ⟨Bl, 0, none⟩), .pointer (some ⟨Bo, 0, none⟩), .pointer (some ⟨Bf, 0, none⟩)]) := by simp only [World.cell?, HN3.out]; rfl
  have HS0 := Lib.hid (And.intro t3 (And.intro t0 (And.intro t1 t2)))
  clear hBl hBo hBf t0 t1 t2 t3
  refine wp_region_held_drew (S := fun X => X.cell? ⟨Bf, 0, none⟩ = some (.func (.func 112) #[] #[.pointer (some ⟨Bt, 0, none⟩), .pointer (some ⟨Bl, 0, none⟩), .pointer (some ⟨Bo, 0, none⟩), .pointer (some ⟨Bf, 0, none⟩)]) ∧ X.cell? ⟨Bt, 0, none⟩ = some (.slice A cs.length cap) ∧ X.cell? ⟨Bt, 1, none⟩ = some (.string rd) ∧ X.cell? ⟨Bt, 2, none⟩ = some (.int .i64 er)) (by kernel_rfl) (HS0.out) (fun hS0 => ?_)
  refine wpAnyH_take (i := 0) (oi := { dst := some 7, op := Op.load 162 (Operand.tmp 5), type := 162, pos := "texts.go:95", after := #[], guard := none }) (v := ?_) rfl (by kernel_rfl) (by kernel_rfl) (by kernel_rfl) (fun _ _ _ h => h) (Or.inl ⟨by rfl, ?_⟩) hS0 ?_
  rotate_left
  · intro X hX
    obtain ⟨x0, x1, x2, x3⟩ := hX
    go_simp
    try with_reducible rfl
  simp only [Act.put, List.setIfInBounds_toArray, List.set_cons_zero, List.set_cons_succ, Array.toArray_toList]
  refine wpAnyH_take (i := 1) (oi := { dst := some 8, op := Op.load 134 (Operand.tmp 2), type := 134, pos := "texts.go:95", after := #[], guard := none }) (v := ?_) rfl (by kernel_rfl) (by kernel_rfl) (by kernel_rfl) (fun _ _ _ h => h) (Or.inl ⟨by rfl, ?_⟩) hS0 ?_
  rotate_left
  · intro X hX
    obtain ⟨x0, x1, x2, x3⟩ := hX
    go_simp
    try with_reducible rfl
  simp only [Act.put, List.setIfInBounds_toArray, List.set_cons_zero, List.set_cons_succ, Array.toArray_toList]
  refine wpAnyH_ready (rs := [2]) (by kernel_rfl) (by simp) (AllReadyH.cons (o := { dst := some 9, op := Op.call { callee := Callee.value (Operand.func 116), args := #[Operand.tmp 8], argTypes := #[134] }, type := 164, pos := "texts.go:95", after := #[{ on := 1, ground := Ground.data }], guard := none }) rfl (fun K hK => ?_) AllReadyH.nil)
  go_simp
  refine (begun_any rd A cs.length cap er _ hl).mono ?_
  rintro e W2 ⟨cr, rfl, hcr, hbe⟩
  have hb2 : Below W1.heap.size W1 W2 := (Below.refl _ W1).drew.trans hbe
  have d0 := cell_later hb2 HS0.out.1
  have d1 := cell_later hb2 HS0.out.2.1
  have d2 := cell_later hb2 HS0.out.2.2.1
  have d3 := cell_later hb2 HS0.out.2.2.2
  have kN : ∀ (B : Nat) (o : Obj), W1.heap[B]? = some o → W2.heap[B]? = some o := fun B o h => (hb2.block B (Array.getElem?_eq_some_iff.1 h).1).trans h
  have hlt : Bo < W2.heap.size := Nat.lt_of_lt_of_le (Array.getElem?_eq_some_iff.1 HN2.out).1 hb2.size
  have hE0 : TEnv W2 Bo W2 (.slice none 0 0) [] (.slice none 0 0) [] (fun g => W2.heap.size ≤ g) :=
    ⟨rfl, rfl, rfl, Nat.le_refl _, fun _ _ _ => rfl, kN _ _ HN2.out, RowT.nil, World.ownsRow_nil _ _ _ _, fun k hk => by simp [Value.ownBlock] at hk, fun k hk => by simp [Value.ownBlock] at hk, fun k hk => hk, hlt, by omega⟩
  have hcap : TCap W2 Bt Bl Bo Bf A cap cs rd er m := ⟨kN _ _ HN0.out, kN _ _ HN1.out, kN _ _ HN3.out, o1, o2, o3, fun X hX => by
    rcases HA.out with h | ⟨b, o, h1, h2⟩
    · exact .inl h
    · refine .inr ⟨b, o, h1, fun i hi => ?_⟩
      have hbl : b < w.heap.size := World.block_lt_of_cell? w _ (h2 i hi)
      have hs1 := HB1.out.size
      have hs2 := hb2.size
      exact (World.cell?_of_block (a := ⟨b, o + i, none⟩) ((hX b (by omega) (by omega)).trans ((hb2.block b (by omega)).trans (HB1.out.block b hbl)))).trans (h2 i hi)⟩
  have hcall := texts1_any W2 Bt Bl Bo Bf A cap cs rd er m hcap hl he hm hc6 HC4.out m [] [] cr (.slice none 0 0) (.slice none 0 0) [] _ W2 (fun _ => rfl) (fun _ => rfl) (by simp) (by
    have : 6 ^ m ≤ 6 ^ 5 := Nat.pow_le_pow_right (by omega) hm
    simp; omega) hcr hE0
  have HCALL := Lib.hid hcall
  have HCAP := Lib.hid hcap
  have HB2 := Lib.hid (HB1.out.trans (hb2.mono HB1.out.size))
  clear hcall hcap hE0 kN hb2 hbe hcr
  go_wp2_with fail
  refine hK.out _ _ (⟨d0, d1, d2, d3⟩) (fun hS1 => ?_)
  clear hS0 hK K
  refine wpAnyH_ready (rs := [3]) (by kernel_rfl) (by simp) (AllReadyH.cons (o := { dst := some 10, op := Op.call { callee := Callee.value (Operand.tmp 7), args := #[Operand.const (Value.slice none 0 0), Operand.tmp 9], argTypes := #[25, 164] }, type := 0, pos := "texts.go:95", after := #[{ on := 0, ground := Ground.data }, { on := 2, ground := Ground.data }, { on := 2, ground := Ground.chain }], guard := none }) rfl (fun K hK => ?_) AllReadyH.nil)
  go_simp
  refine HCALL.out.mono ?_
  rintro e W3 ⟨rfl, vo, hE, hF⟩
  have hown := hE.own
  rw [List.nil_append] at hown
  obtain ⟨Ao, Ln, co, rfl⟩ : ∃ A n c, vo = .slice A n c := by obtain ⟨A, c, h⟩ := hown.slice; exact ⟨A, _, c, h⟩
  have c0 : W3.cell? ⟨Bo, 0, none⟩ = some (.slice Ao Ln co) := by simp only [World.cell?, hE.cell]; rfl
  have z0 : W3.frozen? ⟨Bo, 0, none⟩ = false := by simp [World.frozen?, hE.cell]
  have hs3 := hE.size
  have e3 := Lib.hid (HCAP.out.cells hE.same)
  have hs2 := HB2.out.size
  have hbw : Below w.heap.size w (W3.setCell ⟨Bo, 0, none⟩ (.slice Ao Ln co)) := by
    refine ⟨hE.os.trans HB2.out.os, hE.tape.trans HB2.out.tape, hE.output.trans HB2.out.output, by simp; omega, fun k hk => ?_⟩
    exact (Below.heap_setCell _ _ _ _ (show k ≠ Bo by omega)).trans ((hE.same k (by omega) (by omega)).trans (HB2.out.block k hk))
  have hq : (W3.setCell ⟨Bo, 0, none⟩ (.slice Ao Ln co)).heap[Bo]? = some (.cells #[(.slice Ao Ln co)] 84 (0, 0)) := by simp [World.setCell, Array.getElem?_modify, hE.cell]
  have hrow : RowT (W3.setCell ⟨Bo, 0, none⟩ (.slice Ao Ln co)) W2.heap.size (fun g => W2.heap.size ≤ g) (.slice Ao Ln co) (txL (cl cs) (nl rd) er m [] []) :=
    hown.of (by simp) (fun g hg hp => Below.heap_setCell _ _ _ _ (show g ≠ Bo from fun e => by
      have := hE.lo
      rcases hp with hp | hp
      · omega
      · have := (hown.lt g hp).1; omega)) (fun _ _ h => h)
  have HBW := Lib.hid hbw
  have HQ := Lib.hid hq
  have HROW := Lib.hid hrow
  have HS2 := Lib.hid hs2
  clear hE hF hown hs3 hs2 hbw hq hrow HCALL d0 d1 d2 d3
  go_wp2_with fail
  refine hK.out _ _ (⟨e3.out.2.2.2.2, e3.out.1, e3.out.2.1, e3.out.2.2.1⟩) (fun hS2 => ?_)
  clear hS1 hK K
  refine wpAnyH_done (by kernel_rfl) ?_ _
  clear hS2
  go_wp2_with fail
  have q0 : (W3.setCell ⟨Bo, 0, none⟩ (.slice Ao Ln co)).cell? ⟨Bo, 0, none⟩ = some (.slice Ao Ln co) := by simp only [World.cell?, HQ.out]; rfl
  exact bodyPost_ret (v := (.slice Ao Ln co)) (by simp [results, Try.results91, go_sem, q0]) rfl ⟨_, _, rfl, HS2.out, HROW.out, HBW.out⟩
end
end Go.Proofs.Ytkloaeaepjoijaa
namespace Go.Proofs.Ytkloaeaepjoijaa
section
open Go.RowKit Go.WalkArith
/-- Texts behind a slice. -/
def TextsAt (W : World) (v : Value) (ls : List (List Nat)) : Prop :=
  ∃ A cap, v = .slice A ls.length cap ∧ (ls = [] ∨ ∃ b o, A = some ⟨b, o, none⟩ ∧ ∀ i (h : i < ls.length), ∃ u, W.cell? ⟨b, o + i, none⟩ = some u ∧ IntsAt W u (intsN ls[i]))
theorem RowT.texts {W : World} {base : Nat} {P : Nat → Prop} {v : Value} {ls : List (List Nat)} (h : RowT W base P v ls) : TextsAt W v ls := by
  obtain ⟨vs, h1, h2, h3⟩ := h
  have hc := h2
  rcases h2.2 with ⟨rfl, h0⟩ | ⟨g, cap, cur, rfl, _⟩
  · exact ⟨none, 0, by rw [h0], .inl (List.length_eq_zero_iff.1 h0)⟩
  · refine ⟨_, cap, rfl, .inr ⟨g, 0, rfl, fun i hi => ?_⟩⟩
    obtain ⟨u, h4, h5⟩ := h3 i hi
    exact ⟨u, by rw [Nat.zero_add, hc.cellAt i (by omega), h4], h5.ints⟩
theorem RowT.keepB {W W' : World} {base : Nat} {P : Nat → Prop} {v : Value} {ls : List (List Nat)} (h : RowT W base P v ls) (hb : Below W.heap.size W W') : RowT W' base P v ls := h.of hb.size (fun g hg _ => hb.block g hg) (fun _ _ h => h)
def TsRel (w1 : World) (B : Nat) (A : Option Addr) (cap : Nat) (cs : List ByteArray) (rd : ByteArray) (er : Int) (L0 : Nat) (out i : Value) (wr : World) : Prop :=
  ∃ (k : Nat) (A0 : Option Addr) (n0 c0 : Nat), k ≤ L0 ∧ i = .int .i64 k ∧ out = .slice A0 n0 c0 ∧ RowT wr w1.heap.size (fun g => w1.heap.size ≤ g) (.slice A0 n0 c0) (txN (cl cs) (nl rd) er k) ∧ Below w1.heap.size w1 wr
def TextsPost (w : World) (ls : List (List Nat)) (e : Ending) (w' : World) : Prop := ∃ v, e = .returned (.tuple #[v, .int .i64 0]) ∧ TextsAt w' v ls ∧ Below w.heap.size w w'
set_option maxRecDepth 100000 in
set_option maxHeartbeats 4000000 in
theorem Texts_any (A : Option Addr) (cap : Nat) (cs : List ByteArray) (rd : ByteArray) (er L : Nat) (w : World) (hA : StrsAt w A cs) (hcap : cs.length ≤ cap) (hok : CodeOk cs) (hl : rd.size ≤ 40) (hs : ∀ x ∈ nl rd, x = 46 ∨ x = 45 ∨ x = 32) (he : er ≤ 3) (hL : L ≤ 5) :
    Calls Try.prog 55 #[.agg #[.slice A cs.length cap], .string rd, .int .i64 er, .int .i64 L] w (TextsPost w (textsL (cl cs) (nl rd) er L)) := by
  have hB : Below w.heap.size w (w.alloc (.cells #[.slice A cs.length cap] 87)) := (Below.refl _ _).alloc (Nat.le_refl _) _
  have hn := Go.heap_alloc_new w (.cells #[.slice A cs.length cap] 87)
  have HC := Lib.hid (checkCode_any A cap cs _ (hA.keep hB (Nat.le_refl _)) hcap hok)
  have HA := Lib.hid hA
  have HO := Lib.hid hok
  have HS := Lib.hid hs
  have hw1 := Lib.hid (fun X => within2_any (er : Int) 0 3 X)
  rw [show inB (er : Int) 0 3 = true from inB_true.2 (by omega)] at hw1
  have hw2 := Lib.hid (fun X => within2_any (L : Int) 0 5 X)
  rw [show inB (L : Int) 0 5 = true from inB_true.2 (by omega)] at hw2
  have HB := Lib.hid hB
  clear hA hok hs hB
  go_enter Try.func55, Try.ntmps55
  go_upto_region 1 with fail
  generalize w.alloc (.cells #[.slice A cs.length cap] 87) = w1 at HC HB hn ⊢
  obtain ⟨Bc, hBc⟩ : ∃ B, w.heap.size = B := ⟨_, rfl⟩
  rw [hBc] at hn ⊢
  have c0 : w1.cell? ⟨Bc, 0, none⟩ = some (.slice A cs.length cap) := by simp only [World.cell?, hn]; rfl
  clear hn hBc
  go_wp2_with fail
  refine HC.out.mono ?_
  rintro e w2 ⟨rfl, hb⟩
  have c2 := cell_later hb c0
  have HB2 := Lib.hid (HB.out.trans (hb.mono HB.out.size))
  clear hb c0 HC HB
  have hb3 : Below w2.heap.size w2 (w2.alloc (.cells #[.string rd] 9)) := (Below.refl _ _).alloc (Nat.le_refl _) _
  have hn3 := Go.heap_alloc_new w2 (.cells #[.string rd] 9)
  have HC3 := Lib.hid (checkSigns_any rd w2.heap.size 1 (w2.alloc (.cells #[.string rd] 9)) hl HS.out (by simp only [World.cell?, hn3]; rfl))
  have c3 := cell_later hb3 c2
  have HB3 := Lib.hid (HB2.out.trans (hb3.mono HB2.out.size))
  clear hb3 hn3 HB2
  go_wp2_with fail
  refine HC3.out.mono ?_
  rintro e w4 ⟨rfl, hb⟩
  have c4 := cell_later hb c3
  have HB4 := Lib.hid (HB3.out.trans (hb.mono HB3.out.size))
  clear hb c2 c3 HC3 HB3
  go_wp2_with fail
  refine (hw1.out _).mono ?_
  rintro e w' ⟨rfl, rfl⟩
  go_wp2_with fail
  refine (hw2.out _).mono ?_
  rintro e w' ⟨rfl, rfl⟩
  clear hw1 hw2
  go_upto_region 11 with fail
  have hb5 : Below w4.heap.size w4 (w4.alloc (.cells #[.slice A cs.length cap, .string rd, .int .i64 (er : Int)] 134)) := (Below.refl _ _).alloc (Nat.le_refl _) _
  have hn5 := Go.heap_alloc_new w4 (.cells #[.slice A cs.length cap, .string rd, .int .i64 (er : Int)] 134)
  have HB5 := Lib.hid (HB4.out.trans (hb5.mono HB4.out.size))
  obtain ⟨Bt, hBt⟩ : ∃ B, w4.heap.size = B := ⟨_, rfl⟩
  rw [hBt] at hn5 ⊢
  clear c4 hb5 hBt
  generalize w4.alloc (.cells #[.slice A cs.length cap, .string rd, .int .i64 (er : Int)] 134) = w5 at HB5 hn5 ⊢
  have HN5 := Lib.hid hn5
  clear hn5 HB4
  go_wp2_with fail
  go_loopw [13, 40] (TsRel w5 Bt A cap cs rd er (L + 1)) (fun _ i _ => 7 - (intOf i).toNat)
  case atStart => exact ⟨0, _, _, _, by omega, rfl, rfl, RowT.nil, Below.refl _ _⟩
  case round =>
    obtain ⟨k, A0, n0, c0, hk, rfl, rfl, hrow, hbe⟩ := hrel
    by_cases hlt : k < L + 1
    · have hlt' : decide ((k : Int) < (L : Int) + 1) = true := by simp; omega
      have hbt := (hbe.block Bt (Array.getElem?_eq_some_iff.1 HN5.out).1).trans HN5.out
      have d0 : wr.cell? ⟨Bt, 0, none⟩ = some (.slice A cs.length cap) := by simp only [World.cell?, hbt]; rfl
      have d1 : wr.cell? ⟨Bt, 1, none⟩ = some (.string rd) := by simp only [World.cell?, hbt]; rfl
      have d2 : wr.cell? ⟨Bt, 2, none⟩ = some (.int .i64 (er : Int)) := by simp only [World.cell?, hbt]; rfl
      have hbw := HB5.out.trans (hbe.mono HB5.out.size)
      have hlen := txN_len (cs := cl cs) (rd := nl rd) (e := (er : Int)) (by rw [cl_len]; exact HO.out.six) (k := k) (by omega)
      have hlen2 := txL_len (cs := cl cs) (rd := nl rd) (e := (er : Int)) (by rw [cl_len]; exact HO.out.six) k [] []
      have hp6 : 6 ^ k ≤ 6 ^ 5 := Nat.pow_le_pow_right (by omega) (by omega)
      have HLEN := Lib.hid (show (txN (cl cs) (nl rd) er k).length + (txL (cl cs) (nl rd) er k [] []).length ≤ 1000000 by omega)
      have HT := Lib.hid (texts_any A cap cs rd er k wr (HA.out.keep hbw (Nat.le_refl _)) hl (by omega) (by omega) HO.out.six (fun c hc => (HO.out.letter c hc).2.1))
      have HROW := Lib.hid hrow
      have HBE := Lib.hid hbe
      have HSN := Lib.hid (txN_succ (cl cs) (nl rd) er k)
      clear hbt hbw hlen hlen2 hp6 hrow hbe
      go_wp2_with fail
      refine HT.out.mono ?_
      rintro e w6 ⟨v, base, rfl, hbase, hrw, hb6⟩
      obtain ⟨A6, n6, c6, rfl⟩ : ∃ A n c, v = .slice A n c := by obtain ⟨A, c, h⟩ := hrw.slice; exact ⟨A, _, c, h⟩
      have HRW := Lib.hid hrw
      have HBS := Lib.hid hbase
      have HB6 := Lib.hid (HBE.out.trans (hb6.mono HBE.out.size))
      have HR6 := Lib.hid (HROW.out.keepB hb6)
      have HPP := Lib.hid (fun (g : Nat) (hg : base ≤ g) => (⟨by have := HBE.out.size; have := HBS.out; omega, fun e => by have := (HROW.out.lt g e).2; have := HBS.out; omega⟩ : w5.heap.size ≤ g ∧ (Value.slice A0 n0 c0).ownBlock ≠ some g))
      clear hrw hbase hb6 d0 d1 d2 HT HROW HBE
      go_wp2_with (at_builtin; refine wpList_app_rows rfl _ _ rfl w5.heap.size _ _ _ rfl HR6.out base _ _ _ rfl HRW.out HPP.out HLEN.out HB6.out.size ?_)
      intro v7 w7 hrow7 hgr7
      rw [← HSN.out] at hrow7
      obtain ⟨A7, n7, c7, rfl⟩ : ∃ A n c, v7 = .slice A n c := by obtain ⟨A, c, h⟩ := hrow7.slice; exact ⟨A, _, c, h⟩
      have HR7 := Lib.hid hrow7
      have HB7 := Lib.hid (HB6.out.grown hgr7 HB6.out.size (fun k hk => (HR6.out.lt k hk).1))
      clear hrow7 hgr7
      go_wp2_with fail
      go_roundw
      case rel => exact ⟨k + 1, _, _, _, by omega, by go_num, rfl, HR7.out, HB7.out⟩
      case measure => simp [intOf]; omega
    · have hlt' : decide ((k : Int) < (L : Int) + 1) = false := by simp; omega
      obtain rfl : k = L + 1 := by omega
      have HFIN := Lib.hid (show TextsPost w (textsL (cl cs) (nl rd) er L) (.returned (.tuple #[.slice A0 n0 c0, .int .i64 0])) wr from ⟨_, rfl, hrow.texts, HB5.out.trans (hbe.mono HB5.out.size)⟩)
      clear hrow hbe
      go_wp2_with fail
      go_ret2
      exact HFIN.out
end
end Go.Proofs.Ytkloaeaepjoijaa
namespace Go.Proofs.Ytkloaeaepjoijaa
section
open Go.RowKit Go.WalkArith
/-- A slice of ranges reads as two functions. -/
def RangesAt (W : World) (v : Value) (n : Nat) (lo hi : Int → Int) : Prop :=
  ∃ A cap, v = .slice A n cap ∧ (n = 0 ∨ ∃ b o, A = some ⟨b, o, none⟩ ∧ ∀ i : Nat, i < n → W.cell? ⟨b, o + i * 2, none⟩ = some (.int .i64 (lo i)) ∧ W.cell? ⟨b, o + i * 2 + 1, none⟩ = some (.int .i64 (hi i)))
theorem flatR_length (lo hi : Int → Int) (n : Nat) : (flatR lo hi n).length = n * 2 := by
  induction n with
  | zero => rfl
  | succ n ih => rw [flatR_succ, List.length_append, ih]; simp; omega
theorem flatR_get (lo hi : Int → Int) : ∀ (n i : Nat), i < n → (flatR lo hi n)[i * 2]? = some (.int .i64 (lo i)) ∧ (flatR lo hi n)[i * 2 + 1]? = some (.int .i64 (hi i)) := by
  intro n
  induction n with
  | zero => intro i h; omega
  | succ n ih =>
    intro i h
    rw [flatR_succ]
    by_cases e : i = n
    · subst e
      rw [List.getElem?_append_right (by rw [flatR_length]; omega), List.getElem?_append_right (by rw [flatR_length]; omega), flatR_length]
      constructor
      · rw [Nat.sub_self]; rfl
      · rw [show i * 2 + 1 - i * 2 = 1 by omega]; rfl
    · rw [List.getElem?_append_left (by rw [flatR_length]; omega), List.getElem?_append_left (by rw [flatR_length]; omega)]
      exact ih i (by omega)
theorem RangesAt.of_own {W : World} {base t n : Nat} {v : Value} {lo hi : Int → Int} (h : W.ownsRow base t 2 v n (flatR lo hi n)) : RangesAt W v n lo hi := by
  obtain ⟨_, ⟨rfl, rfl⟩ | ⟨g, cap, cur, rfl, _, hh, _, _, _, ht⟩⟩ := h
  · exact ⟨none, 0, rfl, .inl rfl⟩
  · refine ⟨_, cap, rfl, .inr ⟨g, 0, rfl, fun i hi' => ?_⟩⟩
    have := flatR_get lo hi n i hi'
    rw [← ht, List.getElem?_take_of_lt (by omega), List.getElem?_take_of_lt (by omega)] at this
    simp only [Array.getElem?_toList] at this
    rw [Nat.zero_add]
    constructor
    · rw [show W.cell? ⟨g, i * 2, none⟩ = cur[i * 2]? by simp [World.cell?, hh]]; exact this.1
    · rw [show W.cell? ⟨g, i * 2 + 1, none⟩ = cur[i * 2 + 1]? by simp [World.cell?, hh]]; exact this.2
end
end Go.Proofs.Ytkloaeaepjoijaa
namespace Go.Proofs.Ytkloaeaepjoijaa
section
open Go.RowKit Go.WalkArith
def fl2 : List ByteArray := [⟨#[46]⟩, ⟨#[45]⟩]
def flL : List Ang := [⟨0, -1, 34, 1⟩]
theorem fl2_cl : cl fl2 = [[46], [45]] := by simp [cl, fl2, nl_mk]
theorem fl2_ok : CodeOk fl2 := by
  refine ⟨by decide, by decide, fun s hs => ?_, fun i j hi hj hij => ?_⟩
  · simp only [fl2, List.mem_cons, List.not_mem_nil, or_false] at hs
    rcases hs with rfl | rfl
    · exact ⟨by decide, by decide, fun x hx => by rw [nl_mk] at hx; simp at hx; omega⟩
    · exact ⟨by decide, by decide, fun x hx => by rw [nl_mk] at hx; simp at hx; omega⟩
  · have hj2 : j < 2 := hj
    obtain rfl : i = 0 := by omega
    obtain rfl : j = 1 := by omega
    show nl ⟨#[46]⟩ ≠ nl ⟨#[45]⟩
    rw [nl_mk, nl_mk]
    decide
theorem fl_texts : textsL [[46], [45]] [45] 0 1 = [[1]] := by decide +kernel
theorem fl_leastN : leastN flL 1 0 = 2 := by decide +kernel
theorem fl_leastE : leastE flL 1 0 = 0 := by decide +kernel
set_option maxRecDepth 100000 in
set_option maxHeartbeats 4000000 in
theorem flashed_any (w : World) : Calls Try.prog 51 #[] w fun e w' => e = .returned (.bool true) ∧ Below w.heap.size w w' := by
  have hb1 : Below w.heap.size w (w.alloc (.cells #[.string ⟨#[46]⟩, .string ⟨#[45]⟩] 9)) := (Below.refl _ _).alloc (Nat.le_refl _) _
  have hn1 := Go.heap_alloc_new w (.cells #[.string ⟨#[46]⟩, .string ⟨#[45]⟩] 9)
  have hA : StrsAt (w.alloc (.cells #[.string ⟨#[46]⟩, .string ⟨#[45]⟩] 9)) (some ⟨w.heap.size, 0, none⟩) fl2 := .inr ⟨_, 0, rfl, fun i hi => by
    have hi2 : i < 2 := hi
    rcases (show i = 0 ∨ i = 1 by omega) with rfl | rfl <;> (simp only [World.cell?, hn1]; rfl)⟩
  have hT := Texts_any (some ⟨w.heap.size, 0, none⟩) 2 fl2 ⟨#[45]⟩ 0 1 _ hA (by decide) fl2_ok (by decide) (fun x hx => by rw [nl_mk] at hx; simp at hx; omega) (by omega) (by omega)
  rw [show nl ⟨#[45]⟩ = [45] by rw [nl_mk]; rfl, fl2_cl, show ((0 : Nat) : Int) = 0 from rfl, fl_texts] at hT
  have HT := Lib.hid hT
  have HB1 := Lib.hid hb1
  clear hA hb1 hn1 hT
  go_enter Try.func51, Try.ntmps51
  go_wp2_with fail
  refine HT.out.mono ?_
  rintro e w2 ⟨v, rfl, hts, hb2⟩
  obtain ⟨A2, cap2, rfl, h2⟩ := hts
  obtain ⟨b, o, rfl, hcs⟩ := h2.resolve_left (by simp)
  obtain ⟨u, hu1, hu2⟩ := hcs 0 (by simp)
  obtain ⟨A3, c3, rfl, h3⟩ := hu2
  obtain ⟨b3, o3, rfl, hc3⟩ := h3.resolve_left (by simp [intsN])
  have hu3 := hc3 0 (by simp [intsN])
  have HU1 := Lib.hid hu1
  have HU3 := Lib.hid (show w2.cell? ⟨b3, o3, none⟩ = some (.int .i64 1) from hu3)
  have HB2 := Lib.hid (HB1.out.trans (hb2.mono HB1.out.size))
  clear hcs hu1 h2 h3 hc3 hu3 hb2 HT HB1
  have hb3 : Below w2.heap.size w2 (w2.alloc (.cells #[.int .i64 0, .int .i64 (-1), .int .i64 34, .int .i64 1] 104)) := (Below.refl _ _).alloc (Nat.le_refl _) _
  have hn3 := Go.heap_alloc_new w2 (.cells #[.int .i64 0, .int .i64 (-1), .int .i64 34, .int .i64 1] 104)
  have hA3 : AngsAt (w2.alloc (.cells #[.int .i64 0, .int .i64 (-1), .int .i64 34, .int .i64 1] 104)) (some ⟨w2.heap.size, 0, none⟩) flL := .inr ⟨_, 0, rfl, fun i hi => by
    have hi2 : i < 1 := hi
    obtain rfl : i = 0 := by omega
    refine ⟨?_, ?_, ?_, ?_⟩ <;> (simp only [World.cell?, hn3]; rfl)⟩
  have hl := least_any (some ⟨w2.heap.size, 0, none⟩) 1 1 1 0 flL _ (by omega) rfl hA3
  rw [fl_leastN, fl_leastE] at hl
  have HL := Lib.hid hl
  have HB3 := Lib.hid (HB2.out.trans (hb3.mono HB2.out.size))
  have HU4 := Lib.hid (cell_later hb3 HU1.out)
  have HU5 := Lib.hid (cell_later hb3 HU3.out)
  clear hA3 hl hb3 hn3 HB2 HU1 HU3
  go_wp2_with fail
  refine HL.out.mono ?_
  rintro e w4 ⟨rfl, hb4⟩
  have d1 := cell_later hb4 HU4.out
  have d2 := cell_later hb4 HU5.out
  rw [Nat.add_zero] at d1
  have HB4 := Lib.hid (HB3.out.trans (hb4.mono HB3.out.size))
  clear hb4 HL HB3 HU4 HU5
  go_wp2_with fail
  go_ret
  exact ⟨rfl, HB4.out⟩
end
end Go.Proofs.Ytkloaeaepjoijaa
namespace Go.Proofs.Ytkloaeaepjoijaa
section
open Go.RowKit Go.WalkArith
theorem Try.info104 : (Try.prog.info? 104).map (fun i => (i.zero, i.size, i.bytes)) = some (some (.agg #[.int .i64 0, .int .i64 0, .int .i64 0, .int .i64 0]), 4, 32) := by kernel_rfl
theorem add_at (b o j : Nat) : (⟨b, o, none⟩ : Addr).add j = ⟨b, o + j, none⟩ := by
  unfold Addr.add
  by_cases h : j = 0
  · subst h; simp
  · simp [h]
theorem cell_block {w w' : World} {p : Addr} (h : w'.heap[p.block]? = w.heap[p.block]?) : w'.cell? p = w.cell? p := by simp [World.cell?, h]
/-- A slice that can be an argument's. -/
def NilOk (A : Option Addr) (cap : Nat) : Prop := A = none → cap = 0
/-- Angles one behind the other. -/
def flatA (l : List Ang) : List Value := l.flatMap fun a => [.int .i64 a.t, .int .i64 a.c, .int .i64 a.r, .int .i64 a.g]
theorem flatA_length (l : List Ang) : (flatA l).length = l.length * 4 := by
  induction l with
  | nil => rfl
  | cons a l ih => simp only [flatA, List.flatMap_cons, List.length_append] at ih ⊢; rw [ih]; simp; omega
theorem flatA_snoc (l : List Ang) (a : Ang) : flatA (l ++ [a]) = flatA l ++ [.int .i64 a.t, .int .i64 a.c, .int .i64 a.r, .int .i64 a.g] := by simp [flatA, List.flatMap_append]
theorem flatA_get : ∀ (l : List Ang) (i : Nat) (h : i < l.length), (flatA l)[i * 4]? = some (.int .i64 l[i].t) ∧ (flatA l)[i * 4 + 1]? = some (.int .i64 l[i].c) ∧ (flatA l)[i * 4 + 2]? = some (.int .i64 l[i].r) ∧ (flatA l)[i * 4 + 3]? = some (.int .i64 l[i].g)
  | [], i, h => by simp at h
  | a :: l, 0, h => by simp [flatA]
  | a :: l, i + 1, h => by
    have := flatA_get l i (by simpa using h)
    have e : flatA (a :: l) = [.int .i64 a.t, .int .i64 a.c, .int .i64 a.r, .int .i64 a.g] ++ flatA l := by simp [flatA]
    rw [e, show (i + 1) * 4 = i * 4 + 4 by omega]
    rw [List.getElem?_append_right (by simp), List.getElem?_append_right (by simp), List.getElem?_append_right (by simp), List.getElem?_append_right (by simp)]
    simpa [Nat.add_sub_cancel, show i * 4 + 4 + 1 - 4 = i * 4 + 1 by omega, show i * 4 + 4 + 2 - 4 = i * 4 + 2 by omega, show i * 4 + 4 + 3 - 4 = i * 4 + 3 by omega] using this
theorem angs_of_own {W : World} {base t : Nat} {v : Value} {l : List Ang} (h : W.ownsRow base t 4 v l.length (flatA l)) : ∃ A cap, v = .slice A l.length cap ∧ NilOk A cap ∧ AngsAt W A l := by
  obtain ⟨_, ⟨rfl, h0⟩ | ⟨g, cap, cur, rfl, _, hh, _, _, _, ht⟩⟩ := h
  · have : l = [] := List.length_eq_zero_iff.1 h0
    subst this
    exact ⟨none, 0, rfl, fun _ => rfl, .inl rfl⟩
  · refine ⟨some ⟨g, 0, none⟩, cap, rfl, (fun h => by cases h), .inr ⟨g, 0, rfl, fun i hi => ?_⟩⟩
    have := flatA_get l i hi
    rw [← ht, List.getElem?_take_of_lt (by omega), List.getElem?_take_of_lt (by omega), List.getElem?_take_of_lt (by omega), List.getElem?_take_of_lt (by omega)] at this
    simp only [Array.getElem?_toList] at this
    rw [Nat.zero_add]
    obtain ⟨a1, a2, a3, a4⟩ := this
    refine ⟨?_, ?_, ?_, ?_⟩
    · rw [show W.cell? ⟨g, i * 4, none⟩ = cur[i * 4]? by simp [World.cell?, hh]]; exact a1
    · rw [show W.cell? ⟨g, i * 4 + 1, none⟩ = cur[i * 4 + 1]? by simp [World.cell?, hh]]; exact a2
    · rw [show W.cell? ⟨g, i * 4 + 2, none⟩ = cur[i * 4 + 2]? by simp [World.cell?, hh]]; exact a3
    · rw [show W.cell? ⟨g, i * 4 + 3, none⟩ = cur[i * 4 + 3]? by simp [World.cell?, hh]]; exact a4
theorem own_of_blocks {w w' : World} {base e size n : Nat} {v : Value} {xs : List Value} (h : w.ownsRow base e size v n xs) (hb : ∀ g, v.ownBlock = some g → w'.heap[g]? = w.heap[g]?) : w'.ownsRow base e size v n xs := by
  obtain ⟨h1, h2 | ⟨g, cap, cur, rfl, h3, h4, h5⟩⟩ := h
  · exact ⟨h1, .inl h2⟩
  · exact ⟨h1, .inr ⟨g, cap, cur, rfl, h3, (hb g rfl).trans h4, h5⟩⟩
theorem own_slice {w : World} {base e size n : Nat} {v : Value} {xs : List Value} (h : w.ownsRow base e size v n xs) : ∃ A cap, v = .slice A n cap := by
  obtain ⟨_, ⟨rfl, rfl⟩ | ⟨g, cap, cur, rfl, _⟩⟩ := h
  · exact ⟨none, 0, rfl⟩
  · exact ⟨_, cap, rfl⟩
theorem set_one {w : World} {B t : Nat} {x y z : Value} {fr : Nat × Nat} (h : w.heap[B]? = some (.cells #[x, y, z] t fr)) (x' : Value) :
    (w.setCell ⟨B, 0, none⟩ x').heap[B]? = some (.cells #[x', y, z] t fr) := by
  obtain ⟨hlt, hg⟩ := Array.getElem?_eq_some_iff.1 h
  simp [World.setCell, hlt, Array.getElem_modify, hg]
theorem set_three {w : World} {B t : Nat} {x y z : Value} {fr : Nat × Nat} (h : w.heap[B]? = some (.cells #[x, y, z] t fr)) (x' y' z' : Value) :
    (((w.setCell ⟨B, 0, none⟩ x').setCell ⟨B, 1, none⟩ y').setCell ⟨B, 2, none⟩ z').heap[B]? = some (.cells #[x', y', z'] t fr) := by
  obtain ⟨hlt, hg⟩ := Array.getElem?_eq_some_iff.1 h
  simp [World.setCell, hlt, Array.getElem_modify, hg]
def NRel (l : List Ang) (T C : Int) (n base : Nat) (w : World) (Bi Br Bo : Nat) (net : Obj) (i : Value) (wr : World) : Prop :=
  ∃ k : Nat, k ≤ n ∧ i = .int .i64 k ∧ ∃ v, wr.heap[Bo]? = some (.cells #[v, .int .i64 T, .int .i64 C] 33 (0, 0)) ∧ wr.heap[Br]? = some (.cells #[.slice none 0 0, .int .i64 0, .int .i64 0] 33 (0, 0)) ∧ wr.heap[Bi]? = some net ∧ wr.ownsRow base 104 4 v k (flatA (l.take k)) ∧ Below w.heap.size w wr
def NetPost (l : List Ang) (T C : Int) (w : World) (e : Ending) (w' : World) : Prop := ∃ A cap, e = .returned (.agg #[.slice A l.length cap, .int .i64 T, .int .i64 C]) ∧ AngsAt w' A l ∧ NilOk A cap ∧ Below w.heap.size w w'
set_option maxRecDepth 100000 in
set_option maxHeartbeats 2000000 in
theorem net_any (A : Option Addr) (cap : Nat) (T C : Int) (l : List Ang) (w : World) (hA : AngsAt w A l) (hn : l.length ≤ 1000000) :
    Calls Try.prog 22 #[.agg #[.slice A l.length cap, .int .i64 T, .int .i64 C]] w (NetPost l T C w) := by
  obtain ⟨i0, hi0, hz0, hz1, hz2⟩ := info_parts Try.info104
  have hB : Below w.heap.size w (((w.alloc (.cells #[.slice A l.length cap, .int .i64 T, .int .i64 C] 24)).alloc (.cells #[.slice none 0 0, .int .i64 0, .int .i64 0] 33)).alloc (.cells #[.slice none 0 0, .int .i64 T, .int .i64 C] 33)) := (((Below.refl _ _).alloc (Nat.le_refl _) _).alloc (by simp) _).alloc (by simp; omega) _
  have h0 : (((w.alloc (.cells #[.slice A l.length cap, .int .i64 T, .int .i64 C] 24)).alloc (.cells #[.slice none 0 0, .int .i64 0, .int .i64 0] 33)).alloc (.cells #[.slice none 0 0, .int .i64 T, .int .i64 C] 33)).heap[w.heap.size]? = some (.cells #[.slice A l.length cap, .int .i64 T, .int .i64 C] 24 (0, 0)) := by
    rw [Below.heap_alloc _ _ _ (by simp; try omega), Below.heap_alloc _ _ _ (by simp)]; exact heap_new_at _ _ _ rfl
  have h1 : (((w.alloc (.cells #[.slice A l.length cap, .int .i64 T, .int .i64 C] 24)).alloc (.cells #[.slice none 0 0, .int .i64 0, .int .i64 0] 33)).alloc (.cells #[.slice none 0 0, .int .i64 T, .int .i64 C] 33)).heap[w.heap.size + 1]? = some (.cells #[.slice none 0 0, .int .i64 0, .int .i64 0] 33 (0, 0)) := by
    rw [Below.heap_alloc _ _ _ (by simp)]; exact heap_new_at _ _ _ (by simp)
  have h2 : (((w.alloc (.cells #[.slice A l.length cap, .int .i64 T, .int .i64 C] 24)).alloc (.cells #[.slice none 0 0, .int .i64 0, .int .i64 0] 33)).alloc (.cells #[.slice none 0 0, .int .i64 T, .int .i64 C] 33)).heap[w.heap.size + 1 + 1]? = some (.cells #[.slice none 0 0, .int .i64 T, .int .i64 C] 33 (0, 0)) := heap_new_at _ _ _ (by simp)
  go_enter Try.func22, Try.ntmps22
  go_wp2_with fail
  have hsz : (((w.alloc (.cells #[.slice A l.length cap, .int .i64 T, .int .i64 C] 24)).alloc (.cells #[.slice none 0 0, .int .i64 0, .int .i64 0] 33)).alloc (.cells #[.slice none 0 0, .int .i64 T, .int .i64 C] 33)).heap.size = w.heap.size + 1 + 1 + 1 := by simp
  generalize ((w.alloc (.cells #[.slice A l.length cap, .int .i64 T, .int .i64 C] 24)).alloc (.cells #[.slice none 0 0, .int .i64 0, .int .i64 0] 33)).alloc (.cells #[.slice none 0 0, .int .i64 T, .int .i64 C] 33) = w1 at hB h0 h1 h2 hsz ⊢
  obtain ⟨Bi, hBi⟩ : ∃ Bi, w.heap.size = Bi := ⟨_, rfl⟩
  obtain ⟨Br, hBr⟩ : ∃ Br, w.heap.size + 1 = Br := ⟨_, rfl⟩
  obtain ⟨Bo, hBo⟩ : ∃ Bo, w.heap.size + 1 + 1 = Bo := ⟨_, rfl⟩
  rw [hBo] at h2 hsz ⊢
  rw [hBr] at h1 ⊢
  rw [hBi] at h0 ⊢
  have o1 : w.heap.size ≤ Bi := by omega
  have o2 : Bi < Br := by omega
  have o3 : Br < Bo := by omega
  have HB := Lib.hid hB
  have H0 := Lib.hid h0
  have H1 := Lib.hid h1
  have H2 := Lib.hid h2
  have HA := Lib.hid hA
  clear hB h0 h1 h2 hBi hBr hBo hA
  go_loopw [4] (NRel l T C l.length (Bo + 1) w Bi Br Bo (.cells #[.slice A l.length cap, .int .i64 T, .int .i64 C] 24 (0, 0))) (fun i _ => l.length - (intOf i).toNat)
  case atStart => exact ⟨0, by omega, rfl, _, H2.out, H1.out, H0.out, World.ownsRow_nil _ _ _ _, HB.out⟩
  case round =>
    obtain ⟨k, hk, rfl, v, hO, hR, hI, hown, hBe⟩ := hrel
    have x0 : wr.cell? ⟨Bi, 0, none⟩ = some (.slice A l.length cap) := by simp [World.cell?, hI]
    by_cases hlt : k < l.length
    · have hlt' : decide ((k : Int) < (l.length : Int)) = true := by simpa using hlt
      have hAw := HA.out.keep hBe (Nat.le_refl _)
      obtain ⟨b, o, rfl, hAs⟩ := hAw.resolve_left (fun h => by rw [h] at hlt; simp at hlt)
      obtain ⟨ak0, ak1, ak2, ak3⟩ := hAs k hlt
      obtain ⟨a, ha⟩ : ∃ a, l[k] = a := ⟨_, rfl⟩
      rw [ha] at ak0 ak1 ak2 ak3
      have htk : l.take (k + 1) = l.take k ++ [a] := by rw [List.take_succ_eq_append_getElem hlt, ha]
      have HTK := Lib.hid htk
      obtain ⟨Av, capv, rfl⟩ : ∃ Av capv, v = .slice Av k capv := own_slice hown
      have e0 : wr.cell? ⟨Bo, 0, none⟩ = some (.slice Av k capv) := by simp [World.cell?, hO]
      have HO := Lib.hid hO
      have HR := Lib.hid hR
      have HI := Lib.hid hI
      have HOW := Lib.hid hown
      have HBe := Lib.hid hBe
      have i1 : (0 : Int) ≤ (k : Int) := by omega
      have i2 : (k : Int) < (l.length : Int) := by omega
      have lO : Bo < wr.heap.size := (Array.getElem?_eq_some_iff.1 hO).1
      clear hO hR hI hown hBe htk ha hAs hAw H0 H1 H2 HB
      go_wp2_with (at_builtin; refine wpList_append_own _ rfl _ _ 31 rfl (Bo + 1) 104 i0 (.agg #[.int .i64 0, .int .i64 0, .int .i64 0, .int .i64 0]) 4 32 Try.underlying31 hi0 hz0 hz1 hz2 rfl (by decide) _ _ _ rfl ((HOW.out.alloc _).alloc _) ⟨wr.heap.size + 1, 0, none⟩ 1 1 [.int .i64 a.t, .int .i64 a.c, .int .i64 a.r, .int .i64 a.g] rfl rfl ?c1 ?c2 ?c3 ?c4 ?c5 ?_)
      case c1 => exact World.news_of_block (cs := #[.int .i64 a.t, .int .i64 a.c, .int .i64 a.r, .int .i64 a.g]) (t := 104) (fr := (0, 0)) (heap_alloc2 _ _ _)
      case c2 => simp [Value.oneCell']
      case c3 => unfold maxLen; omega
      case c4 => omega
      case c5 => simp; omega
      intro v' w6 hown6 hgrow _
      have hBa : Below wr.heap.size wr ((wr.alloc (.cells #[.int .i64 a.t, .int .i64 a.c, .int .i64 a.r, .int .i64 a.g] 71)).alloc (.cells #[.int .i64 a.t, .int .i64 a.c, .int .i64 a.r, .int .i64 a.g] 104)) := ((Below.refl _ _).alloc (Nat.le_refl _) _).alloc (by simp) _
      have hblk6 : ∀ j, j ≤ Bo → w6.heap[j]? = wr.heap[j]? := fun j hj => (hgrow.block j (by simp; omega) (fun e => by have := HOW.out.lt j e.symm; omega)).trans (hBa.block j (by omega))
      have hB6 : Below w.heap.size w w6 := ⟨hgrow.os.trans HBe.out.os, hgrow.tape.trans HBe.out.tape, hgrow.output.trans HBe.out.output, Nat.le_trans HBe.out.size (Nat.le_trans hBa.size hgrow.size), fun j hj => (hblk6 j (by omega)).trans (HBe.out.block j hj)⟩
      have hO6 := (hblk6 Bo (Nat.le_refl _)).trans HO.out
      have hR6 := (hblk6 Br (by omega)).trans HR.out
      have hI6 := (hblk6 Bi (by omega)).trans HI.out
      have hown7 : w6.ownsRow (Bo + 1) 104 4 v' (k + 1) (flatA (l.take (k + 1))) := by rw [HTK.out, flatA_snoc]; exact hown6
      obtain ⟨A2, cap2, rfl⟩ := own_slice hown7
      have g0 : w6.cell? ⟨Bo, 0, none⟩ = some (.slice Av k capv) := by simp [World.cell?, hO6]
      have g1 : w6.frozen? ⟨Bo, 0, none⟩ = false := by simp [World.frozen?, hO6]
      have HO6 := Lib.hid hO6
      have HR6 := Lib.hid hR6
      have HI6 := Lib.hid hI6
      have HOW7 := Lib.hid hown7
      have HB6 := Lib.hid hB6
      clear hO6 hR6 hI6 hown7 hown6 hB6 hblk6 hBa hgrow HO HR HI HOW HBe e0 x0 ak0 ak1 ak2 ak3
      go_wp2_with fail
      go_roundw
      case rel =>
        have hs7 : ∀ j, j ≠ Bo → (w6.setCell ⟨Bo, 0, none⟩ (.slice A2 (k + 1) cap2)).heap[j]? = w6.heap[j]? := fun j hj => Below.heap_setCell _ _ _ _ hj
        refine ⟨k + 1, by omega, by go_num, .slice A2 (k + 1) cap2, set_one HO6.out _, (hs7 _ (by omega)).trans HR6.out, (hs7 _ (by omega)).trans HI6.out, own_of_blocks HOW7.out (fun g hg => hs7 g (by have := HOW7.out.lt g hg; omega)), HB6.out.setCell (by simp; omega) _⟩
      case measure => simp [intOf]; omega
    · have hlt' : decide ((k : Int) < (l.length : Int)) = false := by simpa using hlt
      obtain rfl : k = l.length := by omega
      rw [List.take_length] at hown
      obtain ⟨A', cap', rfl, hnil, hang⟩ := angs_of_own hown
      have c0 : wr.cell? ⟨Bo, 0, none⟩ = some (.slice A' l.length cap') := by simp [World.cell?, hO]
      have c1 : wr.cell? ⟨Bo, 1, none⟩ = some (.int .i64 T) := by simp [World.cell?, hO]
      have c2 : wr.cell? ⟨Bo, 2, none⟩ = some (.int .i64 C) := by simp [World.cell?, hO]
      have d0 : wr.cell? ⟨Br, 0, none⟩ = some (.slice none 0 0) := by simp [World.cell?, hR]
      have d1 : wr.cell? ⟨Br, 1, none⟩ = some (.int .i64 0) := by simp [World.cell?, hR]
      have d2 : wr.cell? ⟨Br, 2, none⟩ = some (.int .i64 0) := by simp [World.cell?, hR]
      have f0 : wr.frozen? ⟨Br, 0, none⟩ = false := by simp [World.frozen?, hR]
      have f1 : wr.frozen? ⟨Br, 1, none⟩ = false := by simp [World.frozen?, hR]
      have f2 : wr.frozen? ⟨Br, 2, none⟩ = false := by simp [World.frozen?, hR]
      have lR : Br < wr.heap.size := (Array.getElem?_eq_some_iff.1 hR).1
      have HOW := Lib.hid hown
      have HR := Lib.hid hR
      have HANG := Lib.hid hang
      have HBe := Lib.hid hBe
      clear hown hang hBe hR hO hI H0 H1 H2 HB
      go_wp2_with fail
      have hs7 : ∀ j, j ≠ Br → (((wr.setCell ⟨Br, 0, none⟩ (.slice A' l.length cap')).setCell ⟨Br, 1, none⟩ (.int .i64 T)).setCell ⟨Br, 2, none⟩ (.int .i64 C)).heap[j]? = wr.heap[j]? := fun j hj => (Below.heap_setCell _ _ _ _ hj).trans ((Below.heap_setCell _ _ _ _ hj).trans (Below.heap_setCell _ _ _ _ hj))
      have hB7 : Below w.heap.size w (((wr.setCell ⟨Br, 0, none⟩ (.slice A' l.length cap')).setCell ⟨Br, 1, none⟩ (.int .i64 T)).setCell ⟨Br, 2, none⟩ (.int .i64 C)) := ((HBe.out.setCell (by simp; omega) _).setCell (by simp; omega) _).setCell (by simp; omega) _
      have hk7 : (((wr.setCell ⟨Br, 0, none⟩ (.slice A' l.length cap')).setCell ⟨Br, 1, none⟩ (.int .i64 T)).setCell ⟨Br, 2, none⟩ (.int .i64 C)).heap[Br]? = some (.cells #[.slice A' l.length cap', .int .i64 T, .int .i64 C] 33 (0, 0)) := set_three HR.out _ _ _
      have how7 := own_of_blocks HOW.out (fun g hg => hs7 g (by have := HOW.out.lt g hg; omega))
      generalize ((wr.setCell ⟨Br, 0, none⟩ (.slice A' l.length cap')).setCell ⟨Br, 1, none⟩ (.int .i64 T)).setCell ⟨Br, 2, none⟩ (.int .i64 C) = w7 at hs7 hB7 hk7 how7 ⊢
      have hang7 : AngsAt w7 A' l := by
        obtain ⟨A2, cap2, he, _, h⟩ := angs_of_own how7
        obtain ⟨rfl, _⟩ : A' = A2 ∧ cap' = cap2 := by simpa using he
        exact h
      exact bodyPost_ret (v := .agg #[.slice A' l.length cap', .int .i64 T, .int .i64 C]) (by simp [results, Try.results22, go_sem, World.cell?, hk7]) rfl ⟨_, _, rfl, hang7, hnil, hB7⟩
end
end Go.Proofs.Ytkloaeaepjoijaa
namespace Go.Proofs.Ytkloaeaepjoijaa
section
open Go.RowKit Go.WalkArith
theorem refIn_any (n lo hi : Int) (w : World) :
    Calls Try.prog 46 #[.int .i64 n, .int .i64 lo, .int .i64 hi] w fun e w' => e = .returned (.bool (inB n lo hi)) ∧ w = w' := by
  by_cases h1 : lo ≤ n
  · by_cases h2 : n ≤ hi
    · go_enter Try.func46, Try.ntmps46
      go_wp2
      go_ret
      exact ⟨by simp [inB, h1, h2], rfl⟩
    · have h2' : decide (n ≤ hi) = false := by simpa using h2
      go_enter Try.func46, Try.ntmps46
      go_wp2
      go_ret
      exact ⟨by simp [inB, h2], rfl⟩
  · have h1' : decide (lo ≤ n) = false := by simpa using h1
    go_enter Try.func46, Try.ntmps46
    go_wp2
    go_ret
    exact ⟨by rw [show inB n lo hi = false from (by unfold inB; rw [decide_eq_false_iff_not]; omega)]; rfl, rfl⟩
def FRel (l : List Ang) (T C : Int) (n : Nat) (w : World) (Bi : Nat) (net : Obj) (i : Value) (wr : World) : Prop :=
  ∃ k : Nat, k ≤ n ∧ i = .int .i64 k ∧ wr.heap[Bi]? = some net ∧ (∀ j (h : j < l.length), j < k → angOk T C l[j] = true) ∧ Below w.heap.size w wr
theorem angs_not {l : List Ang} {T C : Int} {k : Nat} (h : k < l.length) (e : angOk T C l[k] = false) : l.all (angOk T C) = false := by
  rw [List.all_eq_false]
  exact ⟨_, List.getElem_mem h, by rw [e]; simp⟩
theorem angs_all {l : List Ang} {T C : Int} (h : ∀ j (hj : j < l.length), angOk T C l[j] = true) : l.all (angOk T C) = true := by
  rw [List.all_eq_true]
  intro a ha
  obtain ⟨j, hj, rfl⟩ := List.getElem_of_mem ha
  exact h j hj
set_option maxRecDepth 100000 in
set_option maxHeartbeats 4000000 in
theorem refFault_any (A : Option Addr) (n cap : Nat) (T C : Int) (l : List Ang) (w : World) (hn : n ≤ 1000000) (hl : l.length = n) (hA : AngsAt w A l) :
    Calls Try.prog 50 #[.agg #[.slice A n cap, .int .i64 T, .int .i64 C]] w fun e w' => e = .returned (.int .i64 (faultL l T C)) ∧ Below w.heap.size w w' := by
  have hB : Below w.heap.size w (w.alloc (.cells #[.slice A n cap, .int .i64 T, .int .i64 C] 24)) := (Below.refl _ _).alloc (Nat.le_refl _) _
  have HB := Lib.hid hB
  clear hB
  by_cases h1 : 12 < n
  · have hf : faultL l T C = 3 := by unfold faultL; rw [if_pos (.inl (by omega))]
    have HF := Lib.hid hf
    clear hf hl hA
    go_enter Try.func50, Try.ntmps50
    go_wp2_with fail
    go_ret
    exact ⟨by rw [HF.out]; rfl, HB.out⟩
  by_cases h2 : 5 < T
  · have hf : faultL l T C = 3 := by unfold faultL; rw [if_pos (.inr (.inl h2))]
    have HF := Lib.hid hf
    clear hf hl hA
    go_enter Try.func50, Try.ntmps50
    go_wp2_with fail
    go_ret
    exact ⟨by rw [HF.out]; rfl, HB.out⟩
  by_cases h3 : 5 < C
  · have hf : faultL l T C = 3 := by unfold faultL; rw [if_pos (.inr (.inr h3))]
    have HF := Lib.hid hf
    clear hf hl hA
    go_enter Try.func50, Try.ntmps50
    go_wp2_with fail
    go_ret
    exact ⟨by rw [HF.out]; rfl, HB.out⟩
  have hnn : ¬ (12 < l.length ∨ 5 < T ∨ 5 < C) := by omega
  by_cases h4 : n = 0
  · have hf : faultL l T C = 1 := by unfold faultL; rw [if_neg hnn, if_pos (.inl (by omega))]
    have HF := Lib.hid hf
    clear hf hl hA
    clear hnn
    subst h4
    go_enter Try.func50, Try.ntmps50
    go_wp2_with fail
    go_ret
    exact ⟨by rw [HF.out]; rfl, HB.out⟩
  have h4' : ((n : Int) == 0) = false := by simpa using h4
  by_cases h5 : T < 0
  · have hf : faultL l T C = 1 := by unfold faultL; rw [if_neg hnn, if_pos (.inr (.inl h5))]
    have HF := Lib.hid hf
    clear hf hl hA
    clear hnn
    go_enter Try.func50, Try.ntmps50
    go_wp2_with fail
    go_ret
    exact ⟨by rw [HF.out]; rfl, HB.out⟩
  by_cases h6 : C < 0
  · have hf : faultL l T C = 1 := by unfold faultL; rw [if_neg hnn, if_pos (.inr (.inr (.inl h6)))]
    have HF := Lib.hid hf
    clear hf hl hA
    clear hnn
    go_enter Try.func50, Try.ntmps50
    go_wp2_with fail
    go_ret
    exact ⟨by rw [HF.out]; rfl, HB.out⟩
  obtain ⟨b, o, rfl⟩ := hA.some (by omega)
  have hn0 := Go.heap_alloc_new w (.cells #[.slice (some ⟨b, o, none⟩) n cap, .int .i64 T, .int .i64 C] 24)
  have HN := Lib.hid hn0
  have HA := Lib.hid hA
  have HL := Lib.hid hl
  have HNN := Lib.hid hnn
  clear hn0 hA hl hnn
  go_enter Try.func50, Try.ntmps50
  go_wp2_with fail
  generalize w.alloc (.cells #[.slice (some ⟨b, o, none⟩) n cap, .int .i64 T, .int .i64 C] 24) = w1 at HB HN ⊢
  obtain ⟨Bi, hBi⟩ : ∃ Bi, w.heap.size = Bi := ⟨_, rfl⟩
  rw [hBi] at HN ⊢
  clear hBi
  go_loopw [3] (FRel l T C n w Bi (.cells #[.slice (some ⟨b, o, none⟩) n cap, .int .i64 T, .int .i64 C] 24 (0, 0))) (fun i _ => n - (intOf i).toNat)
  case atStart => exact ⟨0, by omega, rfl, HN.out, fun j _ h => by omega, HB.out⟩
  case round =>
    clear HB HN
    obtain ⟨k, hk, rfl, hI, hno, hBe⟩ := hrel
    have x0 : wr.cell? ⟨Bi, 0, none⟩ = some (.slice (some ⟨b, o, none⟩) n cap) := by simp [World.cell?, hI]
    have x1 : wr.cell? ⟨Bi, 1, none⟩ = some (.int .i64 T) := by simp [World.cell?, hI]
    have lBi : Bi < wr.heap.size := (Array.getElem?_eq_some_iff.1 hI).1
    by_cases hlt : k < n
    · have hlt' : decide ((k : Int) < (n : Int)) = true := by simpa using hlt
      have hlk : k < l.length := by rw [HL.out]; exact hlt
      have hAw := HA.out.keep hBe (Nat.le_refl _)
      obtain ⟨b', o', hAe, hAs⟩ := hAw.resolve_left (fun h => by rw [h] at hlk; simp at hlk)
      obtain ⟨rfl, rfl⟩ : b = b' ∧ o = o' := by simpa using hAe
      obtain ⟨ak0, ak1, ak2, ak3⟩ := hAs k hlk
      have hok : angOk T C l[k] = (inB l[k].t (-1) (T - 1) && inB l[k].c (-1) (C - 1) && inB l[k].r 0 40 && inB l[k].g 1 3) := rfl
      have HOK := Lib.hid hok
      obtain ⟨a, ha⟩ : ∃ a, l[k] = a := ⟨_, rfl⟩
      rw [ha] at ak0 ak1 ak2 ak3 HOK
      have HAE := Lib.hid ha
      have HNO := Lib.hid hno
      have HI := Lib.hid hI
      have HBe := Lib.hid hBe
      have i1 : (0 : Int) ≤ (k : Int) := by omega
      have i2 : (k : Int) < (n : Int) := by omega
      clear hno hI hBe ha hok hAs hAe hAw
      go_wp2_with fail
      have hblk := Go.heap_alloc_new wr (.cells #[.int .i64 a.t, .int .i64 a.c, .int .i64 a.r, .int .i64 a.g] 71)
      have hBw : Below wr.heap.size wr (wr.alloc (.cells #[.int .i64 a.t, .int .i64 a.c, .int .i64 a.r, .int .i64 a.g] 71)) := (Below.refl _ _).alloc (Nat.le_refl _) _
      generalize wr.alloc (.cells #[.int .i64 a.t, .int .i64 a.c, .int .i64 a.r, .int .i64 a.g] 71) = w2 at hblk hBw ⊢
      have hI2 := (hBw.block Bi (Array.getElem?_eq_some_iff.1 HI.out).1).trans HI.out
      have hB2 : Below w.heap.size w w2 := HBe.out.trans (hBw.mono HBe.out.size)
      obtain ⟨Ba, hBa⟩ : ∃ Ba, wr.heap.size = Ba := ⟨_, rfl⟩
      rw [hBa] at hblk ⊢
      have y1 : w2.cell? ⟨Bi, 1, none⟩ = some (.int .i64 T) := by simp [World.cell?, hI2]
      have y2 : w2.cell? ⟨Bi, 2, none⟩ = some (.int .i64 C) := by simp [World.cell?, hI2]
      have a0 : w2.cell? ⟨Ba, 0, none⟩ = some (.int .i64 a.t) := by simp [World.cell?, hblk]
      have a1 : w2.cell? ⟨Ba, 1, none⟩ = some (.int .i64 a.c) := by simp [World.cell?, hblk]
      have a2 : w2.cell? ⟨Ba, 2, none⟩ = some (.int .i64 a.r) := by simp [World.cell?, hblk]
      have a3 : w2.cell? ⟨Ba, 3, none⟩ = some (.int .i64 a.g) := by simp [World.cell?, hblk]
      have HI2 := Lib.hid hI2
      have HB2 := Lib.hid hB2
      clear hI2 hB2 hblk hBw hBa HI HBe ak0 ak1 ak2 ak3 x0 x1 lBi
      have q1 := Lib.hid (fun w => refIn_any a.t (-1) (T - 1) w)
      have q2 := Lib.hid (fun w => refIn_any a.c (-1) (C - 1) w)
      have q3 := Lib.hid (fun w => refIn_any a.r 0 40 w)
      have q4 := Lib.hid (fun w => refIn_any a.g 1 3 w)
      cases e1 : inB a.t (-1) (T - 1) with
      | false =>
        have hf : faultL l T C = 1 := by unfold faultL; rw [if_neg HNN.out, if_pos (.inr (.inr (.inr (angs_not hlk (by rw [HAE.out, HOK.out, e1]; simp)))))]
        have HF := Lib.hid hf
        rw [e1] at q1
        clear hf HOK HNN
        refine (q1.out _).mono ?_
        rintro e w' ⟨rfl, rfl⟩
        go_wp2_with fail
        go_ret
        exact ⟨by rw [HF.out]; rfl, HB2.out⟩
      | true =>
        cases e2 : inB a.c (-1) (C - 1) with
        | false =>
          have hf : faultL l T C = 1 := by unfold faultL; rw [if_neg HNN.out, if_pos (.inr (.inr (.inr (angs_not hlk (by rw [HAE.out, HOK.out, e1, e2]; simp)))))]
          have HF := Lib.hid hf
          rw [e1] at q1; rw [e2] at q2
          clear hf HOK HNN
          refine (q1.out _).mono ?_
          rintro e w' ⟨rfl, rfl⟩
          go_wp2_with fail
          refine (q2.out _).mono ?_
          rintro e w' ⟨rfl, rfl⟩
          go_wp2_with fail
          go_ret
          exact ⟨by rw [HF.out]; rfl, HB2.out⟩
        | true =>
          cases e3 : inB a.r 0 40 with
          | false =>
            have hf : faultL l T C = 1 := by unfold faultL; rw [if_neg HNN.out, if_pos (.inr (.inr (.inr (angs_not hlk (by rw [HAE.out, HOK.out, e1, e2, e3]; simp)))))]
            have HF := Lib.hid hf
            rw [e1] at q1; rw [e2] at q2; rw [e3] at q3
            clear hf HOK HNN
            refine (q1.out _).mono ?_
            rintro e w' ⟨rfl, rfl⟩
            go_wp2_with fail
            refine (q2.out _).mono ?_
            rintro e w' ⟨rfl, rfl⟩
            go_wp2_with fail
            refine (q3.out _).mono ?_
            rintro e w' ⟨rfl, rfl⟩
            go_wp2_with fail
            go_ret
            exact ⟨by rw [HF.out]; rfl, HB2.out⟩
          | true =>
            cases e4 : inB a.g 1 3 with
            | false =>
              have hf : faultL l T C = 1 := by unfold faultL; rw [if_neg HNN.out, if_pos (.inr (.inr (.inr (angs_not hlk (by rw [HAE.out, HOK.out, e1, e2, e3, e4]; rfl)))))]
              have HF := Lib.hid hf
              rw [e1] at q1; rw [e2] at q2; rw [e3] at q3; rw [e4] at q4
              clear hf HOK HNN
              refine (q1.out _).mono ?_
              rintro e w' ⟨rfl, rfl⟩
              go_wp2_with fail
              refine (q2.out _).mono ?_
              rintro e w' ⟨rfl, rfl⟩
              go_wp2_with fail
              refine (q3.out _).mono ?_
              rintro e w' ⟨rfl, rfl⟩
              go_wp2_with fail
              refine (q4.out _).mono ?_
              rintro e w' ⟨rfl, rfl⟩
              go_wp2_with fail
              go_ret
              exact ⟨by rw [HF.out]; rfl, HB2.out⟩
            | true =>
              have hone : angOk T C l[k] = true := by rw [HAE.out, HOK.out, e1, e2, e3, e4]; rfl
              have HONE := Lib.hid hone
              rw [e1] at q1; rw [e2] at q2; rw [e3] at q3; rw [e4] at q4
              clear hone HOK
              refine (q1.out _).mono ?_
              rintro e w' ⟨rfl, rfl⟩
              go_wp2_with fail
              refine (q2.out _).mono ?_
              rintro e w' ⟨rfl, rfl⟩
              go_wp2_with fail
              refine (q3.out _).mono ?_
              rintro e w' ⟨rfl, rfl⟩
              go_wp2_with fail
              refine (q4.out _).mono ?_
              rintro e w' ⟨rfl, rfl⟩
              go_wp2_with fail
              go_roundw
              case rel => exact ⟨k + 1, by omega, by go_num, HI2.out, fun j hj hjk => by
                by_cases e : j = k
                · subst e; exact HONE.out
                · exact HNO.out j hj (by omega), HB2.out⟩
              case measure => simp [intOf]; omega
    · have hlt' : decide ((k : Int) < (n : Int)) = false := by simpa using hlt
      have hf : faultL l T C = 0 := by
        have hlen := HL.out
        unfold faultL
        rw [if_neg HNN.out, if_neg (by rw [angs_all fun j hj => hno j hj (by omega)]; rintro (h | h | h | h) <;> first | omega | cases h)]
      have HF := Lib.hid hf
      have HBe := Lib.hid hBe
      clear hf hno hBe
      go_wp2_with fail
      go_ret
      exact ⟨by rw [HF.out]; rfl, HBe.out⟩
theorem bit_at (t k : Nat) : (((t : Int) / 2 ^ k).tmod 2 == 1) = t.testBit k := by
  have e : ((t : Int) / 2 ^ k).tmod 2 = ((t / 2 ^ k % 2 : Nat) : Int) := by
    have h2 : ((2 : Int) ^ k) = ((2 ^ k : Nat) : Int) := by simp
    rw [h2, ← Int.natCast_ediv]
    generalize t / 2 ^ k = q
    rw [Int.tmod_eq_emod_of_nonneg (by omega)]
    omega
  rw [e, Nat.testBit_eq_decide_div_mod_eq]
  by_cases h : t / 2 ^ k % 2 = 1
  · rw [h]; rfl
  · have h0 : t / 2 ^ k % 2 = 0 := by omega
    rw [h0]; rfl
end
end Go.Proofs.Ytkloaeaepjoijaa
