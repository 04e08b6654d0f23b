/- The contract of unit.Schedules and of its recursive closure. -/
import Derived.Test.YtkkobdfhnkdfgaaSchedP
namespace Go.Proofs.Ytkkobdfhnkdfgaa
open Go.RowKit

theorem info_bool : (Try.prog.info? 4).map (fun i => (i.zero, i.size, i.bytes)) = some (some (.bool false), 1, 1) := by kernel_rfl
theorem info_bools : (Try.prog.info? 32).map (fun i => (i.zero, i.size, i.bytes)) = some (some (.slice none 0 0), 1, 24) := by kernel_rfl

theorem news_bools {w : World} {rb : Nat} {cur : List Bool} (h : Blk w rb 4 (cur.map Value.bool).toArray) : ∀ j u, (cur.map Value.bool)[j]? = some u → w.cell? ((⟨rb, 0, none⟩ : Addr).add j) = some u := by
  intro j u hu
  have : (⟨rb, 0, none⟩ : Addr).add j = ⟨rb, j, none⟩ := by unfold Addr.add; split <;> simp_all
  rw [this, h.cell j]
  simpa using hu

theorem one_bools (l : List Bool) : ∀ u ∈ l.map Value.bool, u.oneCell' = true := by
  intro u hu
  obtain ⟨b, _, rfl⟩ := List.mem_map.1 hu
  rfl
theorem mid_keep {w w1 : World} {o : Obj} (h : ((w.alloc o).drew).grownBy w1 (some w.heap.size)) : w.heap.size + 1 ≤ w1.heap.size ∧ ∀ k, k < w.heap.size → w1.heap[k]? = w.heap[k]? := by
  refine ⟨by simpa using h.size, fun k hk => ?_⟩
  exact (h.block k (by simp; omega) (by simp; omega)).trans (Below.heap_alloc w o k hk)

theorem clos_end {hrs : Nat} {u : U} {A : Option Addr} {n c : Nat} {bH bA bR bU bX rb B1 : Nat} {vA : Value} {cur : List Bool} {L : List (List Bool)} {w w1 w2 : World} {FC : List (Nat × Nat)} {g1 cap1 g2 cap2 : Nat} {o2 : Obj}
    (hI : SInv w B1 hrs u A n c bH bA bR bU bX rb vA cur L) (ho : w.ownsRow B1 32 1 vA L.length (FC.map (hdr hrs))) (hpw : (FC.map (·.1)).Pairwise (· < ·)) (hfl : FC.length = L.length)
    (hel : ∀ (i : Nat) (p : Nat × Nat), FC[i]? = some p → ∃ xs : List Bool, L[i]? = some xs ∧ w.ownsRow B1 4 1 (hdr hrs p) hrs (xs.map Value.bool))
    (hg1 : ((w.alloc (.cells #[] 4)).drew).grownBy w1 (some w.heap.size)) (ho1 : w1.ownsRow B1 4 1 (.slice (some ⟨g1, 0, none⟩) (0 + hrs) cap1) (0 + hrs) ([] ++ cur.map Value.bool))
    (ha1 : some w.heap.size = some g1 ∨ g1 = w.heap.size + 1)
    (hg2 : (w1.alloc o2).grownBy w2 vA.ownBlock) (ho2 : w2.ownsRow B1 32 1 (.slice (some ⟨g2, 0, none⟩) (L.length + 1) cap2) (L.length + 1) (FC.map (hdr hrs) ++ [hdr hrs (g1, cap1)]))
    (ha2 : vA.ownBlock = some g2 ∨ g2 = w1.heap.size + 1) :
    ∃ vA', SInv (w2.setCell ⟨bA, 0, none⟩ (.slice (some ⟨g2, 0, none⟩) (L.length + 1) cap2)) B1 hrs u A n c bH bA bR bU bX rb vA' cur (L ++ [cur]) ∧ Fr w (w2.setCell ⟨bA, 0, none⟩ (.slice (some ⟨g2, 0, none⟩) (L.length + 1) cap2)) bA rb vA ∧ Grew w vA vA' := by
  rw [Nat.zero_add, List.nil_append] at ho1
  obtain ⟨hz1, k1⟩ := mid_keep hg1
  have hz2 : w1.heap.size + 1 ≤ w2.heap.size := by simpa using hg2.size
  have k2 : ∀ k, k < w1.heap.size → vA.ownBlock ≠ some k → w2.heap[k]? = w1.heap[k]? := fun k hk hne =>
    (hg2.block k (by simp; omega) (Ne.symm hne)).trans (Below.heap_alloc w1 o2 k hk)
  have hvb : ∀ g, vA.ownBlock = some g → B1 ≤ g ∧ g < w.heap.size := fun g hg => ⟨(own_lt ho hg).2, (own_lt ho hg).1⟩
  have hg1w : w.heap.size ≤ g1 := by rcases ha1 with e | e; (injection e with e; omega); omega
  have hg1l : g1 < w1.heap.size := (own_lt ho1 rfl).1
  have kw : ∀ k, k < w.heap.size → vA.ownBlock ≠ some k → w2.heap[k]? = w.heap[k]? := fun k hk hne => (k2 k (by omega) hne).trans (k1 k hk)
  generalize hv' : Value.slice (some ⟨g2, 0, none⟩) (L.length + 1) cap2 = vA' at *
  have ks : ∀ k, k ≠ bA → (w2.setCell ⟨bA, 0, none⟩ vA').heap[k]? = w2.heap[k]? := fun k hk => Below.heap_setCell w2 _ _ k hk
  have hBS := hI.hS
  have neR : vA.ownBlock ≠ some bR := fun e => by have := (hvb bR e).1; have := hI.hR; omega
  have neB : vA.ownBlock ≠ some rb := fun e => by have := (hvb rb e).1; have := hI.hB; omega
  have neA : vA.ownBlock ≠ some bA := own_ne ho hI.kA (by decide)
  have kA2 : Blk w2 bA 27 #[vA] := hI.kA.keep (kw bA hI.kA.lt neA)
  refine ⟨vA', ⟨?_, ?_, ?_, ?_, ?_, ?_, hI.cl, ?_, hI.hR, hI.hB, ?_⟩, ⟨?_, ?_, ?_, ?_, ?_⟩, ?_⟩
  · exact hI.kH.keep ((ks bH (hI.kH.ne hI.kA (by decide))).trans (kw bH hI.kH.lt (own_ne ho hI.kH (by decide))))
  · simpa using kA2.put 0 vA'
  · exact hI.kR.keep ((ks bR (hI.kR.ne hI.kA (by decide))).trans (kw bR hI.kR.lt neR))
  · exact hI.kU.keep ((ks bU (hI.kU.ne hI.kA (by decide))).trans (kw bU hI.kU.lt (own_ne ho hI.kU (by decide))))
  · exact hI.kX.keep ((ks bX (hI.kX.ne hI.kA (by decide))).trans (kw bX hI.kX.lt (own_ne ho hI.kX (by decide))))
  · exact hI.kB.keep ((ks rb (hI.kB.ne hI.kA (by decide))).trans (kw rb hI.kB.lt neB))
  · refine ⟨FC ++ [(g1, cap1)], ?_, ?_, by simp [hfl], ?_⟩
    · have := own_keep (w' := w2.setCell ⟨bA, 0, none⟩ vA') ho2 fun g hg => ks g fun e => by subst e; exact own_ne ho2 kA2 (by decide) hg
      simpa using this
    · rw [List.map_append, List.pairwise_append]
      refine ⟨hpw, by simp, ?_⟩
      intro a ha b hb
      obtain ⟨p, hp, rfl⟩ := List.mem_map.1 ha
      obtain ⟨i, hi, hip⟩ := List.getElem_of_mem hp
      obtain ⟨xs, _, hx⟩ := hel i p (by rw [List.getElem?_eq_getElem hi, hip])
      have := (own_lt hx (g := p.1) rfl).1
      simp at hb
      subst hb
      omega
    · intro i p hp
      rcases Nat.lt_or_ge i FC.length with hi | hi
      · rw [List.getElem?_append_left hi] at hp
        obtain ⟨xs, e, hx⟩ := hel i p hp
        refine ⟨xs, by rw [List.getElem?_append_left (by omega)]; exact e, own_keep hx fun g hg => ?_⟩
        refine (ks g fun e => ?_).trans (kw g (own_lt hx hg).1 (own_ne_own hx ho (by decide) hg))
        subst e
        exact own_ne hx hI.kA (by decide) hg
      · rw [List.getElem?_append_right hi] at hp
        have hi0 : i = FC.length := by
          rcases Nat.eq_or_lt_of_le hi with e | e
          · exact e.symm
          · rw [List.getElem?_eq_none (by simp; omega)] at hp; cases hp
        subst hi0
        simp at hp
        subst hp
        refine ⟨cur, by rw [List.getElem?_append_right (by omega)]; simp [hfl], own_keep ho1 fun g hg => ?_⟩
        have hgg : g1 = g := by simpa [Value.ownBlock] using hg
        subst hgg
        refine (ks g1 (by have := hI.kA.lt; omega)).trans (k2 g1 hg1l fun e => ?_)
        have := (hvb g1 e).2
        omega
  · simp [World.setCell]; omega
  · exact hg2.os.trans (hg1.os)
  · exact hg2.tape.trans (hg1.tape)
  · exact hg2.output.trans (hg1.output)
  · simp [World.setCell]; omega
  · intro k hk h1 _ h3
    exact (ks k h1).trans (kw k hk h3)
  · rcases ha2 with e | e
    · left; rw [← hv', e]; rfl
    · right; refine ⟨g2, by omega, ?_⟩; rw [← hv']; rfl

set_option maxHeartbeats 2000000 in
theorem clos_base (hrs : Nat) (h8 : hrs ≤ 8) (u : U) (A : Option Addr) (n c : Nat) (bH bA bR bU bX rb B1 : Nat) (vA : Value) (cur : List Bool) (L : List (List Bool)) (hL : L.length ≤ 100000) (s : Int) (w : World)
    (hI : SInv w B1 hrs u A n c bH bA bR bU bX rb vA cur L) :
    Calls Try.prog 29 #[.int .i64 hrs, .int .i64 s, .pointer (some ⟨bH, 0, none⟩), .pointer (some ⟨bA, 0, none⟩), .pointer (some ⟨bR, 0, none⟩), .pointer (some ⟨bU, 0, none⟩), .pointer (some ⟨bX, 0, none⟩)] w fun e w' =>
      e = .returned (.tuple #[]) ∧ ∃ vA', SInv w' B1 hrs u A n c bH bA bR bU bX rb vA' cur (L ++ [cur]) ∧ Fr w w' bA rb vA ∧ Grew w vA vA' := by
  obtain ⟨i0, hi0, hz0, hz1, hz2⟩ := info_parts info_bool
  obtain ⟨i1, hi1, hy0, hy1, hy2⟩ := info_parts info_bools
  obtain ⟨FC, ho, hpw, hfl, hel⟩ := hI.lists
  have dH : w.cell? ⟨bH, 0, none⟩ = some (.int .i64 hrs) := hI.kH.cell 0
  have dA : w.cell? ⟨bA, 0, none⟩ = some vA := hI.kA.cell 0
  have dR : w.cell? ⟨bR, 0, none⟩ = some (.slice (some ⟨rb, 0, none⟩) hrs hrs) := hI.kR.cell 0
  have lA := hI.kA.lt
  have lR := hI.kR.lt
  have HI := Lib.hid hI
  have aA : vA.ownBlock ≠ some bA := own_ne ho hI.kA (by decide)
  have hS := hI.hS
  have hRB := hI.hR
  have hvb : ∀ g, vA.ownBlock = some g → B1 ≤ g ∧ g < w.heap.size := fun g hg => ⟨(own_lt ho hg).2, (own_lt ho hg).1⟩
  have HV := Lib.hid hvb
  have HO := Lib.hid ho
  clear hI ho hvb
  go_enter Try.func29, Try.ntmps29
  go_wp2_with fail
  have hown0 : (w.alloc (.cells #[] 4)).ownsRow B1 4 1 (.slice (some ⟨w.heap.size, 0, none⟩) 0 0) 0 [] :=
    ⟨by simp, .inr ⟨w.heap.size, 0, #[], rfl, hS, heap_alloc_new w _, by simp, by simp, rfl, rfl⟩⟩
  have hn0 : ∀ j u, (cur.map Value.bool)[j]? = some u → (w.alloc (.cells #[] 4)).cell? ((⟨rb, 0, none⟩ : Addr).add j) = some u := news_bools (HI.out.kB.alloc _)
  have HN0 := Lib.hid hn0
  have HW0 := Lib.hid hown0
  clear hn0 hown0
  have HCL := Lib.hid HI.out.cl
  go_region_law (first
      | (refine step_append_at _ (by rfl) (.tmp 17) (.tmp 18) _ (by rfl) B1 4 i0 _ 1 1 Try.underlying32 hi0 hz0 hz1 hz2 rfl (by omega) (.slice (some ⟨w.heap.size, 0, none⟩) 0 0) 0 [] (by rfl) HW0.out
          ⟨rb, 0, none⟩ hrs hrs (cur.map Value.bool) (by rfl) (by simp [HCL.out]) HN0.out (one_bools cur) (.inl (by simp)) (by simp [maxLen]; omega) (by omega) (by simp; omega) ?_
         intro g1 cap1 w1 hown1 hgrow1 hat1
         have hk1 := mid_keep hgrow1
         have dA1 : w1.cell? ⟨bA, 0, none⟩ = some vA := (World.cell?_of_block (a := ⟨bA, 0, none⟩) (hk1.2 bA lA)).trans dA
         have dR1 : w1.cell? ⟨bR, 0, none⟩ = some (.slice (some ⟨rb, 0, none⟩) hrs hrs) := (World.cell?_of_block (a := ⟨bR, 0, none⟩) (hk1.2 bR lR)).trans dR
         have lA1 : bA < w1.heap.size := by have := hk1.1; omega
         have lR1 : bR < w1.heap.size := by have := hk1.1; omega
         have HO1 := Lib.hid (own_keep HO.out fun g hg => hk1.2 g (HV.out g hg).2)
         have HK1 := Lib.hid hk1
         have HG1 := Lib.hid hgrow1
         have HX1 := Lib.hid hown1
         clear hk1 hgrow1 hown1)
      | (refine step_append_at _ (by rfl) (.tmp 16) (.tmp 20) _ (by rfl) B1 32 i1 _ 1 24 Try.underlying27 hi1 hy0 hy1 hy2 rfl (by omega) vA L.length (FC.map (hdr hrs)) (by rfl) (own_keep HO1.out fun g hg => Below.heap_alloc w1 _ g (by have := (HV.out g hg).2; have := HK1.out.1; omega))
          ⟨w1.heap.size, 0, none⟩ 1 1 [hdr hrs (g1, cap1)] (by rfl) (by rfl) (World.news_of_block (cs := #[hdr hrs (g1, cap1)]) (t := 32) (fr := (0, 0)) (heap_alloc_new w1 _)) (by simp [Value.oneCell']) (.inr (by omega)) (by simp [maxLen]; omega) (by omega) (by simp; have := HK1.out.1; omega) ?_
         intro g2 cap2 w2 hown2 hgrow2 hat2
         have dA2 : w2.heap[bA]? = w.heap[bA]? := (hgrow2.block bA (by simp; omega) (Ne.symm aA)).trans ((Below.heap_alloc w1 _ bA lA1).trans (HK1.out.2 bA lA))
         have cA2 : w2.cell? ⟨bA, 0, none⟩ = some vA := (World.cell?_of_block (a := ⟨bA, 0, none⟩) dA2).trans dA
         have fA2 : w2.frozen? ⟨bA, 0, none⟩ = false := (World.frozen?_of_block (a := ⟨bA, 0, none⟩) dA2).trans (HI.out.kA.frozen 0)
         have HG2 := Lib.hid hgrow2
         have HX2 := Lib.hid hown2
         have HA2 := Lib.hid hat2
         have HA1 := Lib.hid hat1
         clear dA2 hgrow2 hown2 hat2 hat1))
  all_goals
    go_wp2_with fail
    exact bodyPost_ret (v := .tuple #[]) (results_none Try.results29 _ _ _) rfl ⟨rfl, clos_end HI.out HO.out hpw hfl hel HG1.out HX1.out (by simpa [Value.ownBlock] using HA1.out) HG2.out HX2.out (by simpa using HA2.out)⟩

theorem Fr.put {w w' : World} {bA rb : Nat} {vA : Value} (h : Fr w w' bA rb vA) (i : Nat) (v : Value) : Fr w (w'.setCell ⟨rb, i, none⟩ v) bA rb vA :=
  ⟨h.os, h.tape, h.output, by simpa [World.setCell] using h.size, fun k hk h1 h2 h3 => (Below.heap_setCell w' _ _ k h2).trans (h.block k hk h1 h2 h3)⟩
theorem Fr.ext {w w1 w2 : World} {bA rb : Nat} {vA : Value} (h : Fr w w1 bA rb vA) (k : Ext w1 w2) : Fr w w2 bA rb vA :=
  ⟨k.os.trans h.os, k.tape.trans h.tape, k.output.trans h.output, Nat.le_trans h.size k.size, fun i hi h1 h2 h3 => (k.block i (Nat.lt_of_lt_of_le hi h.size)).trans (h.block i hi h1 h2 h3)⟩
/-- The schedules that the first k values of the hour give. -/
def U.partL (u : U) (d : Nat) (s : Int) (pre : List Bool) (k : Nat) : List (List Bool) :=
  ([false, true].take k).flatMap fun on => if u.next s on = 0 then [] else (u.exts d (u.next s on)).map fun r => pre ++ on :: r
theorem partL_next (u : U) (d : Nat) (s : Int) (pre : List Bool) {k : Nat} (hk : k < 2) :
    u.partL d s pre (k + 1) = u.partL d s pre k ++ (if u.next s (decide (k = 1)) = 0 then [] else (u.exts d (u.next s (decide (k = 1)))).map fun r => pre ++ decide (k = 1) :: r) := by
  have h : k = 0 ∨ k = 1 := by omega
  rcases h with rfl | rfl <;> simp [U.partL]
theorem partL_all (u : U) (d : Nat) (s : Int) (pre : List Bool) : u.partL d s pre 2 = (u.exts (d + 1) s).map (pre ++ ·) := by
  simp only [U.partL, U.exts]
  by_cases h0 : u.next s false = 0 <;> by_cases h1 : u.next s true = 0 <;> simp [h0, h1, Function.comp_def]
theorem exts_len (u : U) : ∀ (d : Nat) (s : Int), (u.exts d s).length ≤ 2 ^ d
  | 0, _ => by simp [U.exts]
  | d + 1, s => by
    have h1 := exts_len u d (u.next s false)
    have h2 := exts_len u d (u.next s true)
    simp only [U.exts, List.length_append, Nat.pow_succ]
    split <;> split <;> simp <;> omega
theorem partL_len (u : U) (d : Nat) (s : Int) (pre : List Bool) {k : Nat} (hk : k ≤ 1) : (u.partL d s pre k).length ≤ 2 ^ d := by
  have h : k = 0 ∨ k = 1 := by omega
  have h1 := exts_len u d (u.next s false)
  rcases h with rfl | rfl
  · simp [U.partL]
  · simp only [U.partL, List.take_succ_cons, List.take_zero, List.flatMap_cons, List.flatMap_nil, List.append_nil]
    split <;> simp <;> omega

set_option maxHeartbeats 2000000 in
theorem clos_any (hrs : Nat) (h8 : hrs ≤ 8) (u : U) (G : u.Good) (A : Option Addr) (n c : Nat) (bH bA bR bU bX rb B1 : Nat) (d : Nat) :
    ∀ (hour : Nat) (hz : Int) (s : Int) (vA : Value) (cur : List Bool) (L : List (List Bool)) (w : World), hz = hour → hour + d = hrs → L.length + 2 ^ d ≤ 1000 → u.isState s = true →
    SInv w B1 hrs u A n c bH bA bR bU bX rb vA cur L →
    Calls Try.prog 29 #[.int .i64 hz, .int .i64 s, .pointer (some ⟨bH, 0, none⟩), .pointer (some ⟨bA, 0, none⟩), .pointer (some ⟨bR, 0, none⟩), .pointer (some ⟨bU, 0, none⟩), .pointer (some ⟨bX, 0, none⟩)] w fun e w' =>
      e = .returned (.tuple #[]) ∧ ∃ vA' cur', SInv w' B1 hrs u A n c bH bA bR bU bX rb vA' cur' (L ++ (u.exts d s).map (cur.take hour ++ ·)) ∧ cur'.take hour = cur.take hour ∧ Fr w w' bA rb vA ∧ Grew w vA vA' := by
  induction d with
  | zero =>
    intro hour hz s vA cur L w hzz hd hL hst hI
    obtain rfl : hour = hrs := by omega
    subst hzz
    refine (clos_base hour h8 u A n c bH bA bR bU bX rb B1 vA cur L (by omega) s w hI).mono ?_
    rintro e w' ⟨rfl, vA', h1, h2, h3⟩
    refine ⟨rfl, vA', cur, ?_, rfl, h2, h3⟩
    have : cur.take hour = cur := List.take_of_length_le (by rw [hI.cl]; omega)
    simpa [U.exts, this] using h1
  | succ d ih =>
    intro hour hz s vA cur L w hzz hd hL hst hI
    subst hzz
    have hlt : hour < hrs := by omega
    have dH : w.cell? ⟨bH, 0, none⟩ = some (.int .i64 hrs) := hI.kH.cell 0
    have hne : ((hour : Int) == (hrs : Int)) = false := by simp; omega
    have HIH := Lib.hid ih
    have HI := Lib.hid hI
    have HST := Lib.hid hst
    clear ih hI hst
    go_enter Try.func29, Try.ntmps29
    go_wp2_with fail
    have HN : Hid (Blk (w.alloc (.cells #[.bool false, .bool true] 4)) w.heap.size 4 #[.bool false, .bool true]) := Blk.new w _ _
    have HI1 := Lib.hid (HI.out.ext (Ext.new1 w (.cells #[.bool false, .bool true] 4)))
    go_loopw [24] (fun i wr => ∃ (k : Nat) (vK : Value) (curK : List Bool), k ≤ 2 ∧ i = .int .i64 k ∧ Hid (SInv wr B1 hrs u A n c bH bA bR bU bX rb vK curK (L ++ u.partL d s (cur.take hour) k)) ∧ Hid (curK.take hour = cur.take hour) ∧
        Hid (Fr w wr bA rb vA) ∧ Hid (Grew w vA vK) ∧ Hid (Blk wr w.heap.size 4 #[.bool false, .bool true])) (fun i _ => 2 - (intOf i).toNat)
    case atStart => exact ⟨0, vA, cur, by omega, rfl, by simpa [U.partL] using HI1, rfl, Fr.of_ext (Ext.new1 w _), .inl rfl, HN⟩
    case round =>
      obtain ⟨k, vK, curK, hk, rfl, HK, HC, HF, HG, HB⟩ := hrel
      by_cases hk2 : k < 2
      · have c1 : wr.cell? ⟨w.heap.size, k, none⟩ = some (.bool (decide (k = 1))) := by
          rw [HB.out.cell k]
          have h : k = 0 ∨ k = 1 := by omega
          rcases h with rfl | rfl <;> rfl
        have hbv : decide ((k : Int) < 2) = true := by simp; omega
        have HP := Lib.hid (partL_next u d s (cur.take hour) hk2)
        have hpl := partL_len u d s (cur.take hour) (k := k) (by omega)
        generalize decide (k = 1) = on at *
        have d0 : wr.cell? ⟨bU, 0, none⟩ = some (.int .i64 u.bus) := HK.out.kU.cell 0
        have d1 : wr.cell? ⟨bU, 1, none⟩ = some (.int .i64 u.mn) := HK.out.kU.cell 1
        have d2 : wr.cell? ⟨bU, 2, none⟩ = some (.slice A n c) := HK.out.kU.cell 2
        have d3 : wr.cell? ⟨bU, 3, none⟩ = some (.int .i64 u.up) := HK.out.kU.cell 3
        have d4 : wr.cell? ⟨bU, 4, none⟩ = some (.int .i64 u.down) := HK.out.kU.cell 4
        have d5 : wr.cell? ⟨bU, 5, none⟩ = some (.int .i64 u.start) := HK.out.kU.cell 5
        have d6 : wr.cell? ⟨bU, 6, none⟩ = some (.int .i64 u.idle) := HK.out.kU.cell 6
        have d7 : wr.cell? ⟨bU, 7, none⟩ = some (.int .i64 u.spin) := HK.out.kU.cell 7
        have d8 : wr.cell? ⟨bU, 8, none⟩ = some (.int .i64 u.on) := HK.out.kU.cell 8
        go_wp2_with fail
        refine (next_any u G s HST.out on A n c _).mono ?_
        rintro e w1 ⟨rfl, hb1⟩
        cases hnb : u.nextB s on
        · have HZ := Lib.hid (nextB_false hnb)
          clear hnb
          go_wp2_with fail
          go_roundw
          case rel =>
            refine ⟨k + 1, vK, curK, by omega, by go_num, ?_, HC, HF.out.ext hb1, HG, HB.out.keep (hb1.block _ HB.out.lt)⟩
            have := HK.out.ext hb1
            rw [HP.out, if_pos HZ.out, List.append_nil]
            exact this
          case measure => simp [intOf]; omega
        · have HZ := Lib.hid (nextB_true hnb)
          clear hnb
          have HK1 := Lib.hid (HK.out.ext hb1)
          have e0 : w1.cell? ⟨bR, 0, none⟩ = some (.slice (some ⟨rb, 0, none⟩) hrs hrs) := HK1.out.kR.cell 0
          have hcl : curK.length = hrs := HK1.out.cl
          have e1 : w1.cell? ⟨rb, hour, none⟩ = some (.bool (curK.getD hour false)) := by
            rw [HK1.out.kB.cell hour]; simp [List.getD, hcl, hlt]
          clear hcl
          have e2 : w1.frozen? ⟨rb, hour, none⟩ = false := HK1.out.kB.frozen hour
          have HK2 := Lib.hid (HK1.out.put hour on)
          have e3 : (w1.setCell ⟨rb, hour, none⟩ (.bool on)).cell? ⟨bX, 0, none⟩ = some (closV bH bA bR bU bX) := HK2.out.kX.cell 0
          go_wp2_with fail
          refine (HIH.out (hour + 1) _ (u.next s on) vK (curK.set hour on) (L ++ u.partL d s (cur.take hour) k) _ (by omega) (by omega) (by simp only [List.length_append]; have := Nat.pow_succ 2 d; omega) (U.next_state G HST.out HZ.out) HK2.out).mono ?_
          rintro e w3 ⟨rfl, vN, curN, hI3, hc3, hf3, hg3⟩
          have hset : (curK.set hour on).take (hour + 1) = cur.take hour ++ [on] := by
            have hcl := HK1.out.cl
            rw [take_snoc _ false (by simp; omega), List.take_set_of_le (by omega), HC.out]
            simp [List.getD, hcl, hlt]
          have hFw : Fr w (w1.setCell ⟨rb, hour, none⟩ (.bool on)) bA rb vA := (HF.out.ext hb1).put hour _
          have HX : Hid (SInv w3 B1 hrs u A n c bH bA bR bU bX rb vN curN (L ++ u.partL d s (cur.take hour) (k + 1))) := by
            rw [hset] at hI3
            rw [HP.out, if_neg HZ.out, ← List.append_assoc]
            unfold Hid
            simpa using hI3
          have HY : Hid (curN.take hour = cur.take hour) := by
            have h1 := congrArg (List.take hour) hc3
            rw [hset] at h1
            have hl : (cur.take hour).length = hour := by rw [List.length_take, HI.out.cl]; omega
            rw [List.take_take, Nat.min_eq_left (by omega), List.take_append_of_le_length (by omega), List.take_take, Nat.min_self] at h1
            exact h1
          have HFw : Hid (Fr w w3 bA rb vA) := hFw.trans HG.out hf3
          have HGw : Hid (Grew w vA vN) := Grew.trans hFw.size HG.out hg3
          have HBw : Hid (Blk w3 w.heap.size 4 #[.bool false, .bool true]) := by
            obtain ⟨FC, ho, _⟩ := HK2.out.lists
            have hBS := HI.out.hS
            have hrb := HI.out.hB
            have hB2 : Blk (w1.setCell ⟨rb, hour, none⟩ (.bool on)) w.heap.size 4 #[.bool false, .bool true] := (HB.out.keep (hb1.block _ HB.out.lt)).far (by simp; omega) _
            exact hB2.keep (hf3.block _ hB2.lt (Ne.symm (HK2.out.kA.ne hB2 (by decide))) (by omega) (own_ne ho hB2 (by decide)))
          clear hI3 hc3 hf3 hg3 hset hFw
          go_wp2_with fail
          go_roundw
          case rel => exact ⟨k + 1, vN, curN, by omega, by go_num, HX, HY, HFw, HGw, HBw⟩
          case measure => simp [intOf]; omega
      · have hbv : decide ((k : Int) < 2) = false := by simp; omega
        have HX : Hid (SInv wr B1 hrs u A n c bH bA bR bU bX rb vK curK (L ++ (u.exts (d + 1) s).map (cur.take hour ++ ·))) := by
          obtain rfl : k = 2 := by omega
          have := HK.out
          rw [partL_all] at this
          exact this
        go_wp2_with fail
        go_end0
        exact ⟨rfl, vK, curK, HX.out, HC.out, HF.out, HG.out⟩
end Go.Proofs.Ytkkobdfhnkdfgaa
