/- Part 7 of the proof of FnColours: what the program's functions and the reference's compute. -/
import Derived.Test.YtickdcegnlldjaaCPCOf
set_option linter.unusedSimpArgs false
set_option linter.unusedVariables false
namespace Go.Proofs.Ytickdcegnlldjaa.Hd
open Go.RowKit Go.PW.PrintWords Go.PW.PrintLast Go.PW.PrintMore Go.Proofs.Ytickdcegnlldjaa.PB
theorem least_nat (P : Nat → Prop) : ∀ m, P m → ∃ q, P q ∧ ∀ j, j < q → ¬ P j := by
 intro m
 induction m using Nat.strongRecOn with
 | ind m ih =>
  intro hm
  by_cases h : ∃ j, j < m ∧ P j
  ·obtain ⟨j, hj, hp⟩ := h
   exact ih j hj hp
  ·exact ⟨m, hm, fun j hj hp => h ⟨j, hj, hp⟩⟩
structure Front (hi wi n : Nat) (g : Nat → Nat → Int) : Prop where
 h1 : 1 ≤ hi
 w1 : 1 ≤ wi
 conv : Conv hi wi g
 seen : ∀ r c, r < hi → c < wi → ∀ k : Int, 0 ≤ k → k < g r c → ∃ r' c', r' < hi ∧ c' < wi ∧ (r' < r ∨ r' = r ∧ c' < c) ∧ g r' c' = k
 nonneg : ∀ r c, r < hi → c < wi → 0 ≤ g r c
 all : ∀ k : Nat, k < n → ∃ r c, r < hi ∧ c < wi ∧ g r c = (k : Int)
section
variable {hi wi n : Nat} {g : Nat → Nat → Int}
theorem Front.up (F : Front hi wi n g) {k : Int} {r r' c : Nat} (hr : r < hi) (hc : c < wi) (hl : r' ≤ r) (h : g r c < k) : g r' c < k := by
 rcases Nat.lt_or_ge r' r with hlt | hge
 ·rcases Int.lt_or_le (g r' c) k with h1 | h1
  ·exact h1
  ·exfalso
   obtain ⟨a, b, ha, hb, hab, e⟩ := F.seen r' c (by omega) hc (g r c) (F.nonneg r c hr hc) (by omega)
   have := F.conv a b r c r' c ha hb hr hc e (by omega) (by omega) (by omega) (by omega)
   omega
 ·rw [show r' = r by omega]; exact h
theorem Front.row0 (F : Front hi wi n g) {k : Int} {c c' : Nat} (hc : c < wi) (hl : c' ≤ c) (h : g 0 c < k) : g 0 c' < k := by
 have h1 := F.h1
 rcases Nat.lt_or_ge c' c with hlt | hge
 ·rcases Int.lt_or_le (g 0 c') k with h1 | h1
  ·exact h1
  ·exfalso
   obtain ⟨a, b, ha, hb, hab, e⟩ := F.seen 0 c' (by omega) (by omega) (g 0 c) (F.nonneg 0 c (by omega) hc) (by omega)
   have := F.conv a b 0 c 0 c' ha hb (by omega) hc e (by omega) (by omega) (by omega) (by omega)
   omega
 ·rw [show c' = c by omega]; exact h
theorem Front.bottom (F : Front hi wi n g) {k : Int} {c : Nat} (hc : c < wi) (h : g 0 c < k) : ∃ r, r < hi ∧ g r c < k ∧ (r + 1 < hi → k ≤ g (r + 1) c) := by
 have h1 := F.h1
 by_cases hall : g (hi - 1) c < k
 ·exact ⟨hi - 1, by omega, hall, fun z => by omega⟩
 ·obtain ⟨r, -, h2, h3, h4⟩ := last_in (fun r => g r c < k) 0 h (hi - 1) (by rw [Nat.zero_add]; exact hall)
  exact ⟨r, by omega, h3, fun _ => by omega⟩
structure InFront (hi wi : Nat) (g : Nat → Nat → Int) (k : Nat) (L : List Nat) (ix : Nat → Nat) : Prop where
 lt : ∀ c, c < wi → g 0 c < (k : Int) → ix c < L.length
 on : ∀ c, c < wi → g 0 c < (k : Int) → ∃ r, r < hi ∧ g r c < (k : Int) ∧ (r + 1 < hi → (k : Int) ≤ g (r + 1) c) ∧ ∃ q, L[ix c]? = some q ∧ (q : Int) = g r c
 mono : ∀ c c', c ≤ c' → c' < wi → g 0 c' < (k : Int) → ix c ≤ ix c'
theorem sl_mem {a b x q : Nat} {L : List Nat} (h : L[x]? = some q) (h1 : a ≤ x + 1) (h2 : x ≤ b) : q ∈ gmSl a b L := by
 unfold gmSl
 refine List.mem_of_getElem? (i := x - (a - 1)) ?_
 rw [List.getElem?_drop, List.getElem?_take, if_pos (by omega), show a - 1 + (x - (a - 1)) = x by omega]
 exact h
structure Corner (hi wi : Nat) (g : Nat → Nat → Int) (k r0 c0 c1 : Nat) : Prop where
 rin : r0 < hi
 cin : c1 < wi
 le : c0 ≤ c1
 is0 : g r0 c0 = (k : Int)
 is1 : g r0 c1 = (k : Int)
 lo : ∀ r c, r < hi → c < wi → g r c = (k : Int) → r0 ≤ r ∧ c0 ≤ c ∧ c ≤ c1
theorem Front.corner (F : Front hi wi n g) (k : Nat) (hk : k < n) : ∃ r0 c0 c1, Corner hi wi g k r0 c0 c1 := by
 obtain ⟨r, c, hr, hc, e⟩ := F.all k hk
 obtain ⟨r0, ⟨q0, q1, q2, q3⟩, hrm⟩ := least_nat (fun r => r < hi ∧ ∃ c, c < wi ∧ g r c = (k : Int)) r ⟨hr, c, hc, e⟩
 obtain ⟨c0, ⟨p0, p1⟩, hcm⟩ := least_nat (fun c => c < wi ∧ g r0 c = (k : Int)) q1 ⟨q2, q3⟩
 obtain ⟨d, ⟨d0, d1⟩, hdm⟩ := least_nat (fun d => d < wi ∧ g r0 (wi - 1 - d) = (k : Int)) (wi - 1 - c0) ⟨by omega, by rw [show wi - 1 - (wi - 1 - c0) = c0 by omega]; exact p1⟩
 have lo : ∀ r c, r < hi → c < wi → g r c = (k : Int) → r0 ≤ r ∧ c0 ≤ c ∧ c ≤ wi - 1 - d := by
  intro r c hr hc e
  have a1 : r0 ≤ r := by
   rcases Nat.lt_or_ge r r0 with h | h
   ·exact absurd ⟨hr, c, hc, e⟩ (hrm r h)
   ·exact h
  have e0 : g r0 c = (k : Int) := by
   have := F.conv r0 c0 r c r0 c q0 p0 hr hc (by rw [p1, e]) (by omega) (by omega) (by omega) (by omega)
   rw [this, p1]
  refine ⟨a1, ?_, ?_⟩
  ·rcases Nat.lt_or_ge c c0 with h | h
   ·exact absurd ⟨hc, e0⟩ (hcm c h)
   ·exact h
  ·rcases Nat.lt_or_ge (wi - 1 - d) c with h | h
   ·exact absurd ⟨by omega, by rw [show wi - 1 - (wi - 1 - c) = c by omega]; exact e0⟩ (hdm (wi - 1 - c) (by omega))
   ·exact h
 exact ⟨r0, c0, wi - 1 - d, q0, by omega, (lo r0 c0 q0 p0 p1).2.2, p1, d1, lo⟩
theorem Front.step (F : Front hi wi n g) {k : Nat} (hk : k < n) {L : List Nat} {ix : Nat → Nat} (I : InFront hi wi g k L ix) :
  ∃ a b ix', a ≤ b ∧ b ≤ L.length ∧ InFront hi wi g (k + 1) (gmOp a b k L) ix' ∧
   ∀ m : Nat, m < k → (∃ r c r' c', r < hi ∧ c < wi ∧ r' < hi ∧ c' < wi ∧ NextTo r c r' c' ∧ g r c = (k : Int) ∧ g r' c' = (m : Int)) → m ∈ gmSl a b L := by
 have hh := F.h1
 obtain ⟨r0, c0, c1, C⟩ := F.corner k hk
 have hr0 := C.rin
 have hc1 := C.cin
 have hle := C.le
 -- an earlier room has a cell in a row not behind r0
 have early : ∀ v : Int, 0 ≤ v → v < (k : Int) → ∃ r' c', r' < hi ∧ c' < wi ∧ r' ≤ r0 ∧ g r' c' = v := by
  intro v v0 v1
  obtain ⟨a, b, ha, hb, hab, e⟩ := F.seen r0 c0 hr0 (by omega) v v0 (by rw [C.is0]; exact v1)
  exact ⟨a, b, ha, hb, by omega, e⟩
 have same : ∀ r c, r < hi → c < wi → r0 ≤ r → g r c < (k : Int) → g r0 c = g r c := by
  intro r c hr hc hl h
  obtain ⟨a, b, ha, hb, hab, e⟩ := early (g r c) (F.nonneg r c hr hc) h
  exact (F.conv a b r c r0 c ha hb hr hc e (by omega) (by omega) (by omega) (by omega)).trans e
 have box : ∀ r c c', r < hi → c' < wi → r0 ≤ r → g r c' = (k : Int) → c0 ≤ c → c ≤ c1 → g r c = (k : Int) := by
  intro r c c' hr hc' hl e h1 h2
  have e0 := F.conv r0 c0 r c' r c0 hr0 (by omega) hr hc' (by rw [C.is0, e]) (by omega) (by omega) (by omega) (by omega)
  rw [C.is0] at e0
  have := F.conv r c0 r0 c1 r c hr (by omega) hr0 hc1 (by rw [e0, C.is1]) (by omega) (by omega) (by omega) (by omega)
  rw [this, e0]
 have row : ∀ c, c0 ≤ c → c ≤ c1 → g r0 c = (k : Int) := fun c h1 h2 => box r0 c c0 hr0 (by omega) (Nat.le_refl _) C.is0 h1 h2
 -- over the room
 have top : ∀ c, c0 ≤ c → c ≤ c1 → 0 < r0 → g (r0 - 1) c < (k : Int) := by
  intro c h1 h2 h0
  rcases Int.lt_trichotomy (g (r0 - 1) c) (k : Int) with h | h | h
  ·exact h
  ·have := (C.lo (r0 - 1) c (by omega) (by omega) h).1
   omega
  ·obtain ⟨a, b, ha, hb, hab, e⟩ := F.seen (r0 - 1) c (by omega) (by omega) (k : Int) (by omega) h
   have := (C.lo a b ha hb e).1
   omega
 -- left of it
 have left : 0 < c0 → g r0 (c0 - 1) < (k : Int) := by
  intro h0
  rcases Int.lt_trichotomy (g r0 (c0 - 1)) (k : Int) with h | h | h
  ·exact h
  ·have := (C.lo r0 (c0 - 1) hr0 (by omega) h).2.1
   omega
  ·obtain ⟨a, b, ha, hb, hab, e⟩ := F.seen r0 (c0 - 1) hr0 (by omega) (k : Int) (by omega) h
   have := C.lo a b ha hb e
   omega
 have left0 : 0 < c0 → g 0 (c0 - 1) < (k : Int) := fun h0 => F.up hr0 (by omega) (Nat.zero_le _) (left h0)
 -- what the list shows
 have shows : ∀ c, c < wi → g r0 c < (k : Int) → ∃ q, L[ix c]? = some q ∧ (q : Int) = g r0 c := by
  intro c hc h
  have h0 := F.up hr0 hc (Nat.zero_le _) h
  obtain ⟨r, hr, h1, h2, q, h3, h4⟩ := I.on c hc h0
  refine ⟨q, h3, ?_⟩
  rw [h4]
  have : r0 ≤ r := by
   rcases Nat.lt_or_ge r r0 with hlt | hge
   ·have := h2 (by omega)
    have := F.up hr0 hc (show r + 1 ≤ r0 by omega) h
    omega
   ·exact hge
  exact (same r c hr hc this h1).symm
 have showsTop : ∀ c, c0 ≤ c → c ≤ c1 → 0 < r0 → g 0 c < (k : Int) ∧ ∃ q, L[ix c]? = some q ∧ (q : Int) = g (r0 - 1) c := by
  intro c h1 h2 h0
  have ht := top c h1 h2 h0
  have hg0 := F.up (show r0 - 1 < hi by omega) (by omega) (Nat.zero_le _) ht
  refine ⟨hg0, ?_⟩
  obtain ⟨r, hr, h3, h4, q, h5, h6⟩ := I.on c (by omega) hg0
  refine ⟨q, h5, ?_⟩
  rw [h6]
  have hk0 := row c h1 h2
  have : r = r0 - 1 := by
   rcases Nat.lt_trichotomy r (r0 - 1) with hlt | he | hgt
   ·have := h4 (by omega)
    have := F.up (show r0 - 1 < hi by omega) (by omega) (show r + 1 ≤ r0 - 1 by omega) ht
    omega
   ·exact he
   ·have := F.up hr (by omega) (show r0 ≤ r by omega) h3
    omega
  rw [this]
 -- the place
 obtain ⟨a, ha0, ha1⟩ : ∃ a, (c0 = 0 → a = 0) ∧ (0 < c0 → a = ix (c0 - 1) + 1) := by
  by_cases h : c0 = 0
  ·exact ⟨0, fun _ => rfl, fun z => by omega⟩
  ·exact ⟨ix (c0 - 1) + 1, fun z => absurd z h, fun _ => rfl⟩
 obtain ⟨b, hb0, hb1⟩ : ∃ b, ((c1 + 1 < wi ∧ g 0 (c1 + 1) < (k : Int)) → b = ix (c1 + 1)) ∧ (¬ (c1 + 1 < wi ∧ g 0 (c1 + 1) < (k : Int)) → b = L.length) := by
  by_cases h : c1 + 1 < wi ∧ g 0 (c1 + 1) < (k : Int)
  ·exact ⟨ix (c1 + 1), fun _ => rfl, fun z => absurd h z⟩
  ·exact ⟨L.length, fun z => absurd z h, fun _ => rfl⟩
 have hbl : b ≤ L.length := by
  by_cases h : c1 + 1 < wi ∧ g 0 (c1 + 1) < (k : Int)
  ·rw [hb0 h]; exact Nat.le_of_lt (I.lt _ h.1 h.2)
  ·rw [hb1 h]; exact Nat.le_refl _
 have hab : a ≤ b := by
  by_cases hc : c0 = 0
  ·rw [ha0 hc]; exact Nat.zero_le _
  ·have hcp : 0 < c0 := by omega
   rw [ha1 hcp]
   by_cases h : c1 + 1 < wi ∧ g 0 (c1 + 1) < (k : Int)
   ·rw [hb0 h]
    have hm := I.mono (c0 - 1) (c1 + 1) (by omega) h.1 h.2
    rcases Nat.lt_or_ge (ix (c0 - 1)) (ix (c1 + 1)) with hlt | hge
    ·omega
    ·exfalso
     have he : ix (c0 - 1) = ix (c1 + 1) := by omega
     obtain ⟨q, q1, q2⟩ := shows (c0 - 1) (by omega) (left hcp)
     obtain ⟨r, hr, h1, h2, q', h3, h4⟩ := I.on (c1 + 1) h.1 h.2
     rw [← he, q1] at h3
     injection h3 with h3
     subst h3
     have := F.conv r0 (c0 - 1) r (c1 + 1) r0 c0 hr0 (by omega) hr h.1 (by rw [← q2, h4]) (by omega) (by omega) (by omega) (by omega)
     rw [C.is0] at this
     have := left hcp
     omega
   ·rw [hb1 h]
    exact I.lt (c0 - 1) (by omega) (left0 hcp)
 have hlen : (L.take a).length = a := by rw [List.length_take]; omega
 have atL : ∀ x, x < a → (gmOp a b k L)[x]? = L[x]? := fun x hx => by
  unfold gmOp
  rw [List.getElem?_append_left (by omega), List.getElem?_take, if_pos hx]
 have atM : (gmOp a b k L)[a]? = some k := by
  unfold gmOp
  rw [List.getElem?_append_right (by omega), hlen, Nat.sub_self]
  rfl
 have atR : ∀ x, b ≤ x → (gmOp a b k L)[x - b + a + 1]? = L[x]? := fun x hx => by
  unfold gmOp
  rw [List.getElem?_append_right (by omega), hlen, show x - b + a + 1 - a = (x - b) + 1 by omega, List.getElem?_cons_succ, List.getElem?_drop, show b + (x - b) = x by omega]
 have lenN : (gmOp a b k L).length = a + 1 + (L.length - b) := by
  unfold gmOp
  rw [List.length_append, hlen, List.length_cons, List.length_drop]
  omega
 -- columns left of the room, and right of it
 have before : ∀ c, c < c0 → g 0 c < ((k + 1 : Nat) : Int) → g 0 c < (k : Int) := by
  intro c hc h
  rcases Int.lt_or_le (g 0 c) (k : Int) with h1 | h1
  ·exact h1
  ·have := C.lo 0 c (by omega) (by omega) (by omega)
   omega
 have behind : ∀ c, c1 < c → c < wi → g 0 c < ((k + 1 : Nat) : Int) → g 0 c < (k : Int) := by
  intro c hc hw h
  rcases Int.lt_or_le (g 0 c) (k : Int) with h1 | h1
  ·exact h1
  ·have := C.lo 0 c (by omega) hw (by omega)
   omega
 have right : ∀ c, c1 < c → c < wi → g 0 c < (k : Int) → c1 + 1 < wi ∧ g 0 (c1 + 1) < (k : Int) := fun c hc hw h => ⟨by omega, F.row0 hw (by omega) h⟩
 refine ⟨a, b, fun c => if c < c0 then ix c else if c ≤ c1 then a else ix c - b + a + 1, hab, hbl, ⟨?_, ?_, ?_⟩, ?_⟩
 ·intro c hc h
  rw [lenN]
  by_cases k1 : c < c0
  ·rw [if_pos k1]
   have := I.mono c (c0 - 1) (by omega) (by omega) (left0 (by omega))
   have := ha1 (by omega)
   omega
  ·rw [if_neg k1]
   by_cases k2 : c ≤ c1
   ·rw [if_pos k2]; omega
   ·rw [if_neg k2]
    have hg := behind c (by omega) hc h
    have hR := right c (by omega) hc hg
    have := I.lt c hc hg
    have := I.mono (c1 + 1) c (by omega) hc hg
    rw [hb0 hR]
    omega
 ·intro c hc h
  by_cases k1 : c < c0
  ·rw [if_pos k1]
   obtain ⟨r, hr, h1, h2, q, h3, h4⟩ := I.on c hc (before c k1 h)
   have hx : ix c < a := by
    have := I.mono c (c0 - 1) (by omega) (by omega) (left0 (by omega))
    have := ha1 (by omega)
    omega
   refine ⟨r, hr, by omega, fun hn => ?_, q, by rw [atL _ hx]; exact h3, h4⟩
   have h5 := h2 hn
   rcases Int.lt_or_le (k : Int) (g (r + 1) c) with h6 | h6
   ·omega
   ·have := C.lo (r + 1) c hn hc (by omega)
    omega
  ·rw [if_neg k1]
   by_cases k2 : c ≤ c1
   ·rw [if_pos k2]
    obtain ⟨r, hr, h1, h2⟩ := F.bottom hc h
    have hk0 := row c (by omega) k2
    have hrr : r0 ≤ r := by
     rcases Nat.lt_or_ge r r0 with hlt | hge
     ·have := h2 (by omega)
      have := F.up (k := ((k + 1 : Nat) : Int)) hr0 hc (show r + 1 ≤ r0 by omega) (by omega)
      omega
     ·exact hge
    have hgr : ¬ g r c < (k : Int) := fun z => by
     have := F.up hr hc hrr z
     omega
    exact ⟨r, hr, h1, h2, k, atM, by omega⟩
   ·rw [if_neg k2]
    have hg := behind c (by omega) hc h
    have hR := right c (by omega) hc hg
    obtain ⟨r, hr, h1, h2, q, h3, h4⟩ := I.on c hc hg
    have hx : b ≤ ix c := by rw [hb0 hR]; exact I.mono (c1 + 1) c (by omega) hc hg
    refine ⟨r, hr, by omega, fun hn => ?_, q, by rw [atR _ hx]; exact h3, h4⟩
    have h5 := h2 hn
    rcases Int.lt_or_le (k : Int) (g (r + 1) c) with h6 | h6
    ·omega
    ·have := C.lo (r + 1) c hn hc (by omega)
     omega
 ·intro c c' hcc hc' h
  have hL : c < c0 → 0 < c0 → ix c < a := fun k1 k2 => by
   have := I.mono c (c0 - 1) (by omega) (by omega) (left0 k2)
   have := ha1 k2
   omega
  by_cases k1 : c' < c0
  ·rw [if_pos k1, if_pos (show c < c0 by omega)]
   exact I.mono c c' hcc hc' (before c' k1 h)
  ·rw [if_neg k1]
   by_cases k2 : c' ≤ c1
   ·rw [if_pos k2]
    by_cases k3 : c < c0
    ·rw [if_pos k3]
     have := hL k3 (by omega)
     omega
    ·rw [if_neg k3, if_pos (show c ≤ c1 by omega)]
     exact Nat.le_refl _
   ·rw [if_neg k2]
    have hg := behind c' (by omega) hc' h
    have hR := right c' (by omega) hc' hg
    have hx : b ≤ ix c' := by rw [hb0 hR]; exact I.mono (c1 + 1) c' (by omega) hc' hg
    by_cases k3 : c < c0
    ·rw [if_pos k3]
     have := hL k3 (by omega)
     omega
    ·rw [if_neg k3]
     by_cases k4 : c ≤ c1
     ·rw [if_pos k4]; omega
     ·rw [if_neg k4]
      have := I.mono c c' hcc hc' hg
      omega
 ·rintro m hm ⟨r, c, r', c', hr, hc, hr', hc', hn, e, e'⟩
  obtain ⟨l1, l2, l3⟩ := C.lo r c hr hc e
  have hmk : g r' c' < (k : Int) := by omega
  rcases hn with ⟨rfl, h | h⟩ | ⟨rfl, h | h⟩
  ·-- right
   have hcc : c = c1 := by
    rcases Nat.lt_or_ge c c1 with hlt | hge
    ·have := box r (c + 1) c hr hc l1 e (by omega) (by omega)
     rw [h] at e'
     omega
    ·omega
   subst hcc
   subst h
   have hg := F.up hr hc' l1 hmk
   have hg0 := F.up hr hc' (Nat.zero_le _) hmk
   obtain ⟨q, q1, q2⟩ := shows (c + 1) hc' hg
   rw [same r (c + 1) hr hc' l1 hmk, e'] at q2
   have : q = m := by omega
   subst this
   exact sl_mem q1 (by have := hb0 ⟨hc', hg0⟩; omega) (by rw [hb0 ⟨hc', hg0⟩]; exact Nat.le_refl _)
  ·-- left
   subst h
   have hcc : c' + 1 = c0 := by
    rcases Nat.lt_or_ge c0 (c' + 1) with hlt | hge
    ·have := box r c' (c' + 1) hr hc l1 e (by omega) (by omega)
     omega
    ·omega
   have hg := F.up hr hc' l1 hmk
   obtain ⟨q, q1, q2⟩ := shows c' hc' hg
   rw [same r c' hr hc' l1 hmk, e'] at q2
   have : q = m := by omega
   subst this
   have haa := ha1 (by omega)
   rw [show c0 - 1 = c' by omega] at haa
   exact sl_mem q1 (by omega) (by omega)
  ·-- below
   subst h
   have := F.up hr' hc (show r ≤ r + 1 by omega) hmk
   omega
  ·-- over
   subst h
   have hrr : r' + 1 = r0 := by
    rcases Nat.lt_or_ge r0 (r' + 1) with hlt | hge
    ·have := F.conv r0 c0 (r' + 1) c r' c hr0 (by omega) hr hc (by rw [C.is0, e]) (by omega) (by omega) (by omega) (by omega)
     rw [C.is0] at this
     omega
    ·omega
   obtain ⟨hg0, q, q1, q2⟩ := showsTop c l2 l3 (by omega)
   rw [show r0 - 1 = r' by omega, e'] at q2
   have : q = m := by omega
   subst this
   refine sl_mem q1 ?_ ?_
   ·by_cases hc0 : c0 = 0
    ·have := ha0 hc0; omega
    ·have := ha1 (by omega)
     have := I.mono (c0 - 1) c (by omega) hc hg0
     omega
   ·by_cases hR : c1 + 1 < wi ∧ g 0 (c1 + 1) < (k : Int)
    ·rw [hb0 hR]; exact I.mono c (c1 + 1) (by omega) hR.1 hR.2
    ·rw [hb1 hR]; exact Nat.le_of_lt (I.lt c hc hg0)
theorem Front.start (F : Front hi wi n g) : InFront hi wi g 1 [0] (fun _ => 0) := by
 refine ⟨fun c _ _ => by simp, fun c hc h => ?_, fun _ _ _ _ _ => Nat.le_refl _⟩
 obtain ⟨r, hr, h1, h2⟩ := F.bottom hc h
 have := F.nonneg r c hr hc
 exact ⟨r, hr, h1, h2, 0, rfl, by omega⟩
def nbG (hi wi : Nat) (g : Nat → Nat → Int) (m k : Nat) : Prop := ∃ r c r' c', r < hi ∧ c < wi ∧ r' < hi ∧ c' < wi ∧ NextTo r c r' c' ∧ g r c = (k : Int) ∧ g r' c' = (m : Int)
theorem Front.run (F : Front hi wi n g) : ∀ k, 1 ≤ k → k ≤ n → ∃ Fr : Nat → List Nat, GmRun (nbG hi wi g) k Fr ∧ ∃ ix, InFront hi wi g k (Fr k) ix
 | 0, h, _ => by omega
 | 1, _, _ => ⟨fun _ => [0], ⟨rfl, fun k h1 h2 => by omega⟩, _, F.start⟩
 | k + 2, _, hk => by
  obtain ⟨Fr, ⟨h1, h2⟩, ix, I⟩ := F.run (k + 1) (by omega) (by omega)
  obtain ⟨a, b, ix', hab, hbl, I', hn⟩ := F.step (show k + 1 < n by omega) I
  refine ⟨fun j => if j = k + 2 then gmOp a b (k + 1) (Fr (k + 1)) else Fr j, ⟨?_, ?_⟩, ix', ?_⟩
  ·dsimp only
   rw [if_neg (by omega)]
   exact h1
  ·intro j hj1 hj2
   dsimp only
   rw [if_neg (show ¬ j = k + 2 by omega)]
   by_cases e : j = k + 1
   ·subst e
    rw [if_pos rfl]
    exact ⟨a, b, hab, hbl, rfl, hn⟩
   ·rw [if_neg (show ¬ j + 1 = k + 2 by omega)]
    exact h2 j hj1 (by omega)
  ·dsimp only
   rw [if_pos rfl]
   exact I'
theorem Front.four (F : Front hi wi n g) (h1 : 1 ≤ n) (h9 : n ≤ 9) : ∃ col : Nat → Nat, (∀ x, col x < 4) ∧ ∀ m j, m < j → j < n → nbG hi wi g m j → col m ≠ col j := by
 obtain ⟨Fr, hR, -⟩ := F.run n h1 (Nat.le_refl n)
 exact four_enough hR h9
end
end Go.Proofs.Ytickdcegnlldjaa.Hd
namespace Go.Proofs.Ytickdcegnlldjaa.Hd
open Go.RowKit Go.PW.PrintWords Go.PW.PrintLast Go.PW.PrintMore Go.Proofs.Ytickdcegnlldjaa.PB
theorem turn_f {X : List (List Int)} (h : OkG X) : impl_PlanTurn.f (planOf X) = some (planOf (turnX X), true) := by unfold impl_PlanTurn.f; rw [if_pos h.psmall, act_turn h]
theorem idxOf_at {O : List Int} (hn : O.Nodup) {i : Nat} {u : Int} (h : O[i]? = some u) : O.idxOf u = i := by
 obtain ⟨hi, e⟩ := List.getElem?_eq_some_iff.1 h
 subst e
 exact hn.idxOf_getElem i hi
theorem seenL {A B : List Int} {v k : Int} (hv : ∀ z ∈ A ++ v :: B, z = ((ordL (A ++ v :: B) []).idxOf z : Int)) (h0 : 0 ≤ k) (h1 : k < v) : k ∈ A := by
 have hn : (ordL (A ++ v :: B) []).Nodup := ordL_nodup _ [] List.nodup_nil
 have e : ordL (A ++ v :: B) [] = ordL B (pushL (ordL A []) v) := by rw [ordL_append]; rfl
 obtain ⟨R, hR⟩ := ordL_prefix B (pushL (ordL A []) v)
 obtain ⟨R2, hR2⟩ := pushL_prefix (ordL A []) v
 generalize hO : ordL (A ++ v :: B) [] = O at *
 rw [e] at hn hv
 rw [← hR] at hn hv
 have hvi : (pushL (ordL A []) v ++ R).idxOf v ≤ (ordL A []).length := by
  rw [List.idxOf_append, if_pos (pushL_mem _ v)]
  unfold pushL
  split
  ·rename_i hm
   exact Nat.le_of_lt (List.idxOf_lt_length_of_mem (by simpa using hm))
  ·rename_i hm
   rw [List.idxOf_append, if_neg (by simpa using hm)]
   simp
 have hve := hv v (by simp)
 obtain ⟨kk, rfl⟩ := Int.eq_ofNat_of_zero_le h0
 have hkl : kk < (ordL A []).length := by omega
 have hat : (pushL (ordL A []) v ++ R)[kk]? = some (ordL A [])[kk] := by
  rw [← hR2, List.append_assoc, List.getElem?_append_left hkl, List.getElem?_eq_getElem hkl]
 have hmem : (ordL A [])[kk] ∈ A := by
  rcases ordL_sub A [] _ (List.getElem_mem hkl) with h | h
  ·cases h
  ·exact h
 have hi := idxOf_at hn hat
 have := hv _ (List.mem_append_left (v :: B) hmem)
 rw [hi] at this
 rw [← this]
 exact hmem
theorem cell_split {Z : List (List Int)} {wi r c : Nat} (h : Rect wi Z) (hr : r < Z.length) (hc : c < wi) :
  ∃ A B, Z.flatten = A ++ zaw Z r c :: B ∧ ∀ z ∈ A, ∃ r' c', r' < Z.length ∧ c' < wi ∧ (r' < r ∨ r' = r ∧ c' < c) ∧ zaw Z r' c' = z := by
 obtain ⟨row, h1, h2⟩ := valAt_get h hr hc
 obtain ⟨hr', e1⟩ := List.getElem?_eq_some_iff.1 h1
 obtain ⟨hc', e2⟩ := List.getElem?_eq_some_iff.1 h2
 have d1 : Z = Z.take r ++ row :: Z.drop (r + 1) := by
  rw [← e1, ← List.drop_eq_getElem_cons hr', List.take_append_drop]
 have d2 : row = row.take c ++ zaw Z r c :: row.drop (c + 1) := by
  rw [← e2, ← List.drop_eq_getElem_cons hc', List.take_append_drop]
 refine ⟨(Z.take r).flatten ++ row.take c, row.drop (c + 1) ++ (Z.drop (r + 1)).flatten, ?_, ?_⟩
 ·have : Z.flatten = (Z.take r ++ row :: Z.drop (r + 1)).flatten := congrArg List.flatten d1
  rw [this, List.flatten_append, List.flatten_cons]
  have : row ++ (Z.drop (r + 1)).flatten = (row.take c ++ zaw Z r c :: row.drop (c + 1)) ++ (Z.drop (r + 1)).flatten := congrArg (· ++ (Z.drop (r + 1)).flatten) d2
  rw [this]
  simp
 ·intro z hz
  rcases List.mem_append.1 hz with hz | hz
  ·obtain ⟨row', hrow, hzr⟩ := List.mem_flatten.1 hz
   obtain ⟨r', hr'⟩ := List.getElem?_of_mem hrow
   obtain ⟨c', hc'⟩ := List.getElem?_of_mem hzr
   rw [List.getElem?_take] at hr'
   split at hr'
   ·rename_i hlt
    have hrl := (List.getElem?_eq_some_iff.1 hr').1
    have hcl := (List.getElem?_eq_some_iff.1 hc').1
    rw [h row' (List.mem_of_getElem? hr')] at hcl
    refine ⟨r', c', hrl, hcl, .inl hlt, ?_⟩
    obtain ⟨row2, k1, k2⟩ := valAt_get h hrl hcl
    rw [hr'] at k1
    injection k1 with k1
    subst k1
    rw [hc'] at k2
    injection k2 with k2
    exact k2.symm
   ·cases hr'
  ·obtain ⟨c', hc'⟩ := List.getElem?_of_mem hz
   rw [List.getElem?_take] at hc'
   split at hc'
   ·rename_i hlt
    refine ⟨r, c', hr, by omega, .inr ⟨rfl, hlt⟩, ?_⟩
    obtain ⟨row2, k1, k2⟩ := valAt_get h hr (show c' < wi by omega)
    rw [h1] at k1
    injection k1 with k1
    subst k1
    rw [hc'] at k2
    injection k2 with k2
    exact k2.symm
   ·cases hc'
theorem front_plan {Z : List (List Int)} (h : OkG Z) (hz : canon Z = Z) : Front Z.length (zak Z) (zbf Z).length (zaw Z) := by
 have hd := h.dims
 have hR := zco h.shape
 have idx : ∀ r c, r < Z.length → c < zak Z → zaw Z r c = ((zbf Z).idxOf (zaw Z r c) : Int) := fun r c hr hc => by
  have := canon_at h.shape hr hc
  rw [hz] at this
  exact this
 have idxf : ∀ z ∈ Z.flatten, z = ((zbf Z).idxOf z : Int) := fun z hzm => by
  obtain ⟨row, h1, h2⟩ := List.mem_flatten.1 hzm
  obtain ⟨r, hr⟩ := List.getElem?_of_mem h1
  obtain ⟨c, hc⟩ := List.getElem?_of_mem h2
  have hrl := (List.getElem?_eq_some_iff.1 hr).1
  have hcl := (List.getElem?_eq_some_iff.1 hc).1
  rw [hR row h1] at hcl
  obtain ⟨row2, k1, k2⟩ := valAt_get hR hrl hcl
  rw [hr] at k1
  injection k1 with k1
  subst k1
  rw [hc] at k2
  injection k2 with k2
  rw [k2]
  exact idx r c hrl hcl
 refine ⟨by omega, by omega, h.conv, ?_, ?_, ?_⟩
 ·intro r c hr hc k h0 h1
  obtain ⟨A, B, e, hA⟩ := cell_split hR hr hc
  have : k ∈ A := seenL (B := B) (v := zaw Z r c) (fun z hzm => by
   rw [← e]
   exact idxf z (by rw [e]; exact hzm)) h0 h1
  obtain ⟨r', c', q1, q2, q3, q4⟩ := hA k this
  exact ⟨r', c', q1, q2, q3, q4⟩
 ·intro r c hr hc
  rw [idx r c hr hc]
  omega
 ·intro k hk
  have hu : (zbf Z)[k]? = some (zbf Z)[k] := List.getElem?_eq_getElem hk
  have hm : (zbf Z)[k] ∈ Z.flatten := by
   rcases ordL_sub Z.flatten [] _ (List.getElem_mem hk) with h | h
   ·cases h
   ·exact h
  have hi : (zbf Z).idxOf (zbf Z)[k] = k := idxOf_at (O := zbf Z) (ordL_nodup _ [] List.nodup_nil) hu
  have hv := idxf _ hm
  rw [hi] at hv
  obtain ⟨row, h1, h2⟩ := List.mem_flatten.1 hm
  obtain ⟨r, hr⟩ := List.getElem?_of_mem h1
  obtain ⟨c, hc⟩ := List.getElem?_of_mem h2
  have hrl := (List.getElem?_eq_some_iff.1 hr).1
  have hcl := (List.getElem?_eq_some_iff.1 hc).1
  rw [hR row h1] at hcl
  obtain ⟨row2, k1, k2⟩ := valAt_get hR hrl hcl
  rw [hr] at k1
  injection k1 with k1
  subst k1
  rw [hc] at k2
  injection k2 with k2
  exact ⟨r, c, hrl, hcl, by rw [← k2]; exact hv⟩
def ColG (Z : List (List Int)) (m : Int) (f : Nat → Nat → Int) : Prop :=
 (∀ r c, r < Z.length → c < zak Z → 0 ≤ f r c ∧ f r c < m) ∧
 (∀ r c r' c', r < Z.length → c < zak Z → r' < Z.length → c' < zak Z → zaw Z r c = zaw Z r' c' → f r c = f r' c') ∧
 ∀ r c r' c', r < Z.length → c < zak Z → r' < Z.length → c' < zak Z → NextTo r c r' c' → zaw Z r c ≠ zaw Z r' c' → f r c ≠ f r' c'
theorem rd_mapR (f : Nat → Int) (n a : Nat) (ha : a < n) : rd ((List.range n).map f) (a : Int) = f a := by
 have : ((List.range n).map f)[a]? = some (f a) := by simp [ha]
 exact rd_at this
theorem colG_cells {Z : List (List Int)} (h : OkG Z) (hz : canon Z = Z) {m : Int} {f : Nat → Nat → Int} (hf : ColG Z m f) : ∃ r, PropL Z m r ∧ r.length = (zbf Z).length := by
 have F := front_plan h hz
 obtain ⟨cell, hcell⟩ : ∃ cell : Nat → Nat × Nat, ∀ k, k < (zbf Z).length → (cell k).1 < Z.length ∧ (cell k).2 < zak Z ∧ zaw Z (cell k).1 (cell k).2 = (k : Int) := by
  have : ∀ k, ∃ x : Nat × Nat, k < (zbf Z).length → x.1 < Z.length ∧ x.2 < zak Z ∧ zaw Z x.1 x.2 = (k : Int) := fun k => by
   by_cases hk : k < (zbf Z).length
   ·obtain ⟨r, c, a, b, e⟩ := F.all k hk
    exact ⟨(r, c), fun _ => ⟨a, b, e⟩⟩
   ·exact ⟨(0, 0), fun z => absurd z hk⟩
  exact ⟨fun k => (this k).choose, fun k => (this k).choose_spec⟩
 refine ⟨(List.range (zbf Z).length).map fun k => f (cell k).1 (cell k).2, ?_, by simp⟩
 intro a ha
 have ha' : a < (zbf Z).length := by simpa using ha
 obtain ⟨a1, a2, a3⟩ := hcell a ha'
 rw [rd_mapR _ _ a ha']
 refine ⟨hf.1 _ _ a1 a2, fun b hb hn => ?_⟩
 have hb' : b < (zbf Z).length := by omega
 obtain ⟨b1, b2, b3⟩ := hcell b hb'
 rw [rd_mapR _ _ b hb']
 obtain ⟨r, c, r', c', k1, k2, k3, k4, k5, k6, k7⟩ := besN_cells Z (a : Int) (b : Int) (by omega) hn
 have e1 := hf.2.1 r c _ _ k1 k2 a1 a2 (by rw [k6, a3])
 have e2 := hf.2.1 r' c' _ _ k3 k4 b1 b2 (by rw [k7, b3])
 have e3 := hf.2.2 r c r' c' k1 k2 k3 k4 k5 (by rw [k6, k7]; omega)
 rw [← e1, ← e2]
 exact fun e => e3 e.symm
theorem cells_colG {Z : List (List Int)} (h : OkG Z) (hz : canon Z = Z) {m : Int} {r : List Int} (hr : PropL Z m r) (hl : r.length = (zbf Z).length) : ColG Z m (fun i j => rd r (zaw Z i j)) := by
 have F := front_plan h hz
 have val : ∀ i j, i < Z.length → j < zak Z → ∃ a : Nat, a < r.length ∧ zaw Z i j = (a : Int) := fun i j hi hj => by
  obtain ⟨a, ha⟩ := Int.eq_ofNat_of_zero_le (F.nonneg i j hi hj)
  refine ⟨a, ?_, ha⟩
  have := canon_at h.shape hi hj
  rw [hz] at this
  have h2 := List.idxOf_lt_length_of_mem (val_ord h.shape hi hj)
  omega
 refine ⟨fun i j hi hj => ?_, fun i j i' j' _ _ _ _ e => by dsimp only; rw [e], fun i j i' j' hi hj hi' hj' hn hne => ?_⟩
 ·obtain ⟨a, ha, e⟩ := val i j hi hj
  dsimp only
  rw [e]
  exact (hr a ha).1
 ·obtain ⟨a, ha, e⟩ := val i j hi hj
  obtain ⟨b, hb, e'⟩ := val i' j' hi' hj'
  have hg := besN_gt Z i j i' j' hi hj hi' hj' hn hne
  dsimp only
  rw [e, e'] at hg ⊢
  rw [e, e'] at hne
  rcases Nat.lt_trichotomy a b with hlt | he | hgt
  ·rw [besN_comm] at hg
   exact (hr b hb).2 a hlt hg
  ·exact absurd (by rw [he]) hne
  ·exact fun z => (hr a ha).2 b hgt hg z.symm
theorem four_colours {Z : List (List Int)} (h : OkG Z) (hz : canon Z = Z) (h1 : 1 ≤ (zbf Z).length) : ∃ r, PropL Z 4 r ∧ r.length = (zbf Z).length := by
 obtain ⟨col, c1, c2⟩ := (front_plan h hz).four h1 h.many
 refine ⟨(List.range (zbf Z).length).map fun k => (col k : Int), ?_, by simp⟩
 intro a ha
 have ha' : a < (zbf Z).length := by simpa using ha
 rw [rd_mapR _ _ a ha']
 have := c1 a
 refine ⟨by omega, fun b hb hn => ?_⟩
 rw [rd_mapR _ _ b (by omega)]
 obtain ⟨r, c, r', c', k1, k2, k3, k4, k5, k6, k7⟩ := besN_cells Z (a : Int) (b : Int) (by omega) hn
 have := c2 b a hb ha' ⟨r, c, r', c', k1, k2, k3, k4, k5, k6, k7⟩
 omega
theorem least_le {Z : List (List Int)} {n m : Nat} (h1 : 1 ≤ n) (h9 : n ≤ 9) (hm : 1 ≤ m) {r : List Int} (hr : PropL Z (m : Int) r) (hl : r.length = n) : (zci Z n 9 1).1 ≤ m := by
 obtain ⟨k1, k2, k3, k4⟩ := least_facts Z n h1 h9
 rcases Nat.lt_or_ge m (zci Z n 9 1).1 with h | h
 ·obtain ⟨r', hr'⟩ := colG_some_of hr hl
  rw [k4 m hm h] at hr'
  cases hr'
 ·exact h
theorem least_col {Z : List (List Int)} {n : Nat} (h1 : 1 ≤ n) (h9 : n ≤ 9) : ∃ r, PropL Z ((zci Z n 9 1).1 : Int) r ∧ r.length = n := by
 obtain ⟨k1, k2, k3, k4⟩ := least_facts Z n h1 h9
 obtain ⟨a, b⟩ := colG_sound Z _ n [] _ (PropL.nil _ _) k3
 exact ⟨_, a, by rw [b]; simp⟩
theorem col_move {Y Z : List (List Int)} {m : Int} {f : Nat → Nat → Int} (hf : ColG Z m f) (tr tc : Nat → Nat → Nat)
  (hin : ∀ r c, r < Y.length → c < zak Y → tr r c < Z.length ∧ tc r c < zak Z)
  (heq : ∀ r c r' c', r < Y.length → c < zak Y → r' < Y.length → c' < zak Y → (zaw Y r c = zaw Y r' c' ↔ zaw Z (tr r c) (tc r c) = zaw Z (tr r' c') (tc r' c')))
  (hnx : ∀ r c r' c', r < Y.length → c < zak Y → r' < Y.length → c' < zak Y → NextTo r c r' c' → NextTo (tr r c) (tc r c) (tr r' c') (tc r' c')) : ColG Y m (fun r c => f (tr r c) (tc r c)) := by
 refine ⟨fun r c hr hc => hf.1 _ _ (hin r c hr hc).1 (hin r c hr hc).2, fun r c r' c' hr hc hr' hc' e => ?_, fun r c r' c' hr hc hr' hc' hn hne => ?_⟩
 ·exact hf.2.1 _ _ _ _ (hin r c hr hc).1 (hin r c hr hc).2 (hin r' c' hr' hc').1 (hin r' c' hr' hc').2 ((heq r c r' c' hr hc hr' hc').1 e)
 ·exact hf.2.2 _ _ _ _ (hin r c hr hc).1 (hin r c hr hc).2 (hin r' c' hr' hc').1 (hin r' c' hr' hc').2 (hnx r c r' c' hr hc hr' hc' hn) (fun z => hne ((heq r c r' c' hr hc hr' hc').2 z))
theorem canon_eq {X : List (List Int)} (h : OkG X) {r c r' c' : Nat} (hr : r < X.length) (hc : c < zak X) (hr' : r' < X.length) (hc' : c' < zak X) :
  zaw (canon X) r c = zaw (canon X) r' c' ↔ zaw X r c = zaw X r' c' := by
 rw [canon_at h.shape hr hc, canon_at h.shape hr' hc']
 constructor
 ·intro e
  have e1 : (zbf X).idxOf (zaw X r c) = (zbf X).idxOf (zaw X r' c') := by omega
  have h1 := List.idxOf_lt_length_of_mem (val_ord h.shape hr hc)
  have h2 := List.idxOf_lt_length_of_mem (val_ord h.shape hr' hc')
  have a1 := List.getElem_idxOf h1
  have a2 := List.getElem_idxOf h2
  rw [← a1, ← a2]
  congr 1
 ·intro e
  rw [e]
structure Own (X : List (List Int)) : Prop where
 ok : OkG (canon X)
 self : canon (canon X) = canon X
 many : (zau X).length = (zbf (canon X)).length
 some : 1 ≤ (zau X).length
 nine : (zau X).length ≤ 9
theorem own_of {X : List (List Int)} (h : OkG X) : Own X := by
 have hf := h.floorP
 obtain ⟨a, b, c, -⟩ := floor_okG hf
 have hk := floorF_ok hf
 refine ⟨a, b, ?_, rooms_some hk, hk.many⟩
 rw [rooms_len a.shape, ← c]
def leastN (X : List (List Int)) : Nat := (zci (canon X) (zau X).length 9 1).1
theorem coloursF_plan {X : List (List Int)} (h : OkG X) : coloursF (planOf X) = ((leastN X : Int), true) := by
 unfold coloursF
 rw [h.floorP]
 rfl
theorem leastN_four {X : List (List Int)} (h : OkG X) : 1 ≤ leastN X ∧ leastN X ≤ 4 := by
 have O := own_of h
 obtain ⟨r, h1, h2⟩ := four_colours O.ok O.self (by rw [← O.many]; exact O.some)
 exact ⟨(least_facts (canon X) _ O.some O.nine).1, least_le O.some O.nine (by omega) h1 (by rw [h2, O.many])⟩
theorem leastN_move {X Y : List (List Int)} (hX : OkG X) (hY : OkG Y) (tr tc : Nat → Nat → Nat)
  (hin : ∀ r c, r < Y.length → c < zak Y → tr r c < X.length ∧ tc r c < zak X)
  (hv : ∀ r c, r < Y.length → c < zak Y → zaw Y r c = zaw X (tr r c) (tc r c))
  (hnx : ∀ r c r' c', r < Y.length → c < zak Y → r' < Y.length → c' < zak Y → NextTo r c r' c' → NextTo (tr r c) (tc r c) (tr r' c') (tc r' c')) : leastN Y ≤ leastN X := by
 have O := own_of hX
 have P := own_of hY
 obtain ⟨r, h1, h2⟩ := least_col (Z := canon X) O.some O.nine
 have hf := cells_colG O.ok O.self h1 (by rw [h2, O.many])
 have hg : ColG (canon Y) ((zci (canon X) (zau X).length 9 1).1 : Int) _ := col_move (Y := canon Y) hf tr tc
  (fun r c hr hc => by
   rw [canon_length] at hr ⊢
   rw [canon_wide] at hc ⊢
   exact hin r c hr hc)
  (fun r c r' c' hr hc hr' hc' => by
   rw [canon_length] at hr hr'
   rw [canon_wide] at hc hc'
   rw [canon_eq hY hr hc hr' hc', canon_eq hX (hin r c hr hc).1 (hin r c hr hc).2 (hin r' c' hr' hc').1 (hin r' c' hr' hc').2, hv r c hr hc, hv r' c' hr' hc'])
  (fun r c r' c' hr hc hr' hc' hn => by
   rw [canon_length] at hr hr'
   rw [canon_wide] at hc hc'
   exact hnx r c r' c' hr hc hr' hc' hn)
 obtain ⟨r2, k1, k2⟩ := colG_cells P.ok P.self hg
 exact least_le P.some P.nine (least_facts (canon X) _ O.some O.nine).1 k1 (by rw [k2, P.many])
theorem leastN_turn {X : List (List Int)} (h : OkG X) : leastN (turnX X) = leastN X := by
 have Y := turn_ok h
 obtain ⟨d1, d2⟩ := turn_dims h
 have hd := h.dims
 have a := leastN_move h Y (fun r c => X.length - 1 - c) (fun r c => r) (fun r c hr hc => by omega) (fun r c hr hc => by
   rw [d1] at hr
   rw [d2] at hc
   exact turn_at hr hc) (fun r c r' c' hr hc hr' hc' hn => by
   unfold NextTo at hn ⊢
   omega)
 have b := leastN_move Y h (fun r c => c) (fun r c => X.length - 1 - r) (fun r c hr hc => by omega) (fun r c hr hc => by
   rw [turn_at hc (show X.length - 1 - r < X.length by omega), show X.length - 1 - (X.length - 1 - r) = r by omega]) (fun r c r' c' hr hc hr' hc' hn => by
   unfold NextTo at hn ⊢
   omega)
 omega
theorem leastN_one {X : List (List Int)} (h : OkG X) : leastN X = 1 ↔ (zau X).length = 1 := by
 have O := own_of h
 obtain ⟨k1, k2, k3, k4⟩ := least_facts (canon X) _ O.some O.nine
 have hs := O.some
 constructor
 ·intro e
  rcases Nat.lt_or_ge 1 (zau X).length with hlt | hge
  ·exfalso
   obtain ⟨r, h1, h2⟩ := least_col (Z := canon X) O.some O.nine
   have hf := cells_colG O.ok O.self h1 (by rw [h2, O.many])
   have F := front_plan O.ok O.self
   obtain ⟨i, j, a1, a2, a3⟩ := F.all 0 (by rw [← O.many]; omega)
   obtain ⟨i', j', b1, b2, b3⟩ := F.all 1 (by rw [← O.many]; omega)
   obtain ⟨x, y, x', y', q1, q2, q3, q4, q5, q6, q7, q8, hn, p1, p2⟩ := cell_border (fun r c => zaw (canon X) r c = 0) i j i' j' a3 (by rw [b3]; decide)
   have c1 := hf.1 x y (by omega) (by omega)
   have c2 := hf.1 x' y' (by omega) (by omega)
   have c3 := hf.2.2 x y x' y' (by omega) (by omega) (by omega) (by omega) hn (by rw [p1]; exact fun z => p2 z.symm)
   have e' : (zci (canon X) (zau X).length 9 1).1 = 1 := e
   rw [e'] at c1 c2
   omega
  ·omega
 ·intro e
  have : leastN X ≤ 1 := by
   have : leastN X ≤ (zau X).length := k2
   omega
  have : 1 ≤ leastN X := k1
  omega
end Go.Proofs.Ytickdcegnlldjaa.Hd
namespace Go.Proofs.Ytickdcegnlldjaa.Pure
open Go.RowKit Go.Proofs.Ytickdcegnlldjaa.CO Go.Proofs.Ytickdcegnlldjaa.PB Go.Proofs.Ytickdcegnlldjaa.SM Go.Proofs.Ytickdcegnlldjaa.Hd Go.PW.PrintWords Go.PW.PrintLast
theorem colours_f {X : List (List Int)} (h : OkG X) : impl_NearColours.f (planOf X) = some ((leastN X : Int), true) := by
 unfold impl_NearColours.f
 rw [if_pos h.psmall, coloursF_plan h]
theorem FnColours : laws_FnColours.Pure := by
 intro l0 h1 h2 h3
 by_cases big : (l0.length : Int) > 1048576
 ·exact ⟨0, by unfold laws_FnColours.f; rw [if_pos big]⟩
 ·obtain ⟨p, hp0, hl⟩ := One_ev l0 (fun x hx => byte_of (h3 x hx))
  have hp : Evs (fun k => spec_DrawNearColours.f k l0) p := Evs.bind hp0 (Evs.const _)
  have hsm : smallB p = true := (smallB_iff _).2 hl.small
  have hI : impl_NearColours.f p = some (coloursF p) := by unfold impl_NearColours.f; rw [if_pos hsm]
  apply Evs.ex
  refine Evs.neg big (Evs.bind hp (Evs.bindS hI (Evs.bind (NearColours_ev p hl.small) (Evs.neg (by simp) (Evs.pos rfl ?_)))))
  rcases in_cases p with ⟨X, hX, rfl⟩ | f1
  ·rw [coloursF_plan hX]
   have R := room_facts hX.floorP
   have hJ : impl_PlanRooms.f (planOf X) = some (((zau X).length : Int), true) := by
    unfold impl_PlanRooms.f
    rw [if_pos hX.psmall, R.rooms]
   have Y := turn_ok hX
   have ht := colours_f Y
   rw [leastN_turn hX] at ht
   have h4 := leastN_four hX
   have ho := leastN_one hX
   refine Evs.stepNeg (fun k => by conv => lhs; unfold laws_FnColours.j0) (by simp) ?_
   refine Evs.bindS hJ (Evs.bindS (turn_f hX) (Evs.bindS ht (Evs.pos rfl (Evs.pos rfl (Evs.pos rfl (Evs.pos rfl (Evs.pos (by dsimp only; omega) (Evs.pos (by dsimp only; omega) ?_))))))))
   have e : (((leastN X : Int) == 1) == (((zau X).length : Int) == 1)) = true := by
    by_cases q : leastN X = 1
    ·have := ho.1 q
     rw [q, this]
     rfl
    ·have q2 : ¬ (zau X).length = 1 := fun z => q (ho.2 z)
     have e1 : ((leastN X : Int) == 1) = false := by rw [beq_eq_false_iff_ne]; omega
     have e2 : (((zau X).length : Int) == 1) = false := by rw [beq_eq_false_iff_ne]; omega
     rw [e1, e2]
     rfl
   dsimp only
   rw [e]
   exact Evs.const _
  ·have e0 : coloursF p = (0, false) := by unfold coloursF; rw [f1]
   rw [e0]
   show Evs (fun k => laws_FnColours.j0 k p 0 false 0 false true) true
   refine Evs.stepPos (fun k => by conv => lhs; unfold laws_FnColours.j0) rfl ?_
   exact Evs.pos rfl (Evs.const _)
end Go.Proofs.Ytickdcegnlldjaa.Pure
