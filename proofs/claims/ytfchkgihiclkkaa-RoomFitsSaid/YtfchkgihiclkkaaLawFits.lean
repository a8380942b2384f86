/-
  The walk of RoomFits: true at every input.
-/
import Derived.Test.YtfchkgihiclkkaaLawRoom
namespace Go.Proofs.Ytfchkgihiclkkaa
open Go.RowKit

/-- A number from 0 to n - 1 is handed back. -/
def Picked (n : Int) (e : Ending) : Prop := ∃ r : Int, 0 ≤ r ∧ r < n ∧ e = .returned (.int .i64 r)
theorem pick_some (x n : Int) (hn : 1 ≤ n) (hn2 : n ≤ 1000000) (w : World) : Calls Try.prog 20 #[.int .i64 x, .int .i64 n] w fun e w' => Picked n e ∧ w = w' :=
  (pick_any x n hn hn2 w).mono fun _ _ hq => ⟨⟨x % n, Int.emod_nonneg _ (by omega), Int.emod_lt_of_pos _ (by omega), hq.1⟩, hq.2⟩

set_option maxHeartbeats 2000000 in
theorem fits_any (a0 a1 a2 a3 a4 : Int) (_w0 : (Lit.int .i64 a0).wf = true) (_w1 : (Lit.int .i64 a1).wf = true) (_w2 : (Lit.int .i64 a2).wf = true) (_w3 : (Lit.int .i64 a3).wf = true) (_w4 : (Lit.int .i64 a4).wf = true) (w : World) :
    Calls Try.prog 5 #[.int .i64 a0, .int .i64 a1, .int .i64 a2, .int .i64 a3, .int .i64 a4] w fun e w' => e = .returned (.bool true) ∧ Below w.heap.size w w' := by
  clear _w0 _w1 _w2 _w3 _w4
  go_enter Try.func5, Try.ntmps5
  go_wp2_with fail
  refine (awakeRoom_any _).mono ?_
  rintro e W ⟨rfl, hb⟩
  have HB := Lib.hid hb
  clear hb
  go_wp2_with fail
  refine (pick_some a0 2000 (by decide) (by decide) _).mono ?_
  rintro e w' ⟨⟨r0, b01, b02, rfl⟩, rfl⟩
  go_wp2_with fail
  refine (pick_some a1 14000 (by decide) (by decide) _).mono ?_
  rintro e w' ⟨⟨r1, b11, b12, rfl⟩, rfl⟩
  obtain ⟨l, hl⟩ : ∃ l : Int, 16 + r0 = l := ⟨_, rfl⟩
  obtain ⟨m, hm⟩ : ∃ m : Int, l + r1 = m := ⟨_, rfl⟩
  go_wp2_with fail
  refine (pick_some a2 20000 (by decide) (by decide) _).mono ?_
  rintro e w' ⟨⟨h, h1, h2, rfl⟩, rfl⟩
  go_wp2_with fail
  refine (pick_some a3 20000 (by decide) (by decide) _).mono ?_
  rintro e w' ⟨⟨v, v1, v2, rfl⟩, rfl⟩
  go_wp2_with fail
  refine (pick_some a4 20000 (by decide) (by decide) _).mono ?_
  rintro e w' ⟨⟨u, u1, u2, rfl⟩, rfl⟩
  have l1 : 16 ≤ l := by omega
  have l2 : l ≤ m := by omega
  have l3 : m ≤ 100000 := by omega
  clear hl hm b01 b02 b11 b12
  go_wp2_with fail
  refine (right_any _ _ _).mono ?_
  rintro e w' ⟨rfl, rfl⟩
  have c0 : W.heap.size < W.heap.size + 1 := by omega
  cases hp : okP l m
  · have hbig : 16384 < m := by
      rcases Int.lt_or_le 16384 m with h1 | h1
      · exact h1
      · rw [(okP_iff l m).2 ⟨l1, l2, h1⟩] at hp; cases hp
    go_wp2_with fail
    go_ret
    exact ⟨rfl, (HB.out.alloc HB.out.size _).alloc (by have := HB.out.size; simp; omega) _⟩
  · obtain ⟨_, _, p3⟩ := (okP_iff l m).1 hp
    obtain ⟨s1, s2, s3, s4, _⟩ := shr_facts (l := l) (v := v) (h := h) (by omega) v1 h1
    have hag := shr_again (l := l) (v := v) (h := h) (by omega) v1 h1
    obtain ⟨k, hk⟩ : ∃ k, shr l v h = k := ⟨_, rfl⟩
    rw [hk] at s1 s2 s3 s4 hag
    have HK := Lib.hid ((shrunk_yes hp h1 v1).trans hk)
    have HA := Lib.hid ((shrunk_yes hp s2 v1).trans hag)
    obtain ⟨q5, hq5, b5⟩ : ∃ q5 : Int, (if h < v then h else v) = q5 ∧ q5 ≤ k := ⟨_, rfl, by split <;> omega⟩
    obtain ⟨q6, hq6, b6⟩ : ∃ q6 : Int, (if h < l then h else l) = q6 ∧ q6 ≤ k := ⟨_, rfl, by split <;> omega⟩
    clear hk hag s3 s4
    by_cases hroom : v + u ≤ m
    · have hok : okG l m h v u = true := (okG_iff _ _ _ _ _).2 ⟨hp, h1, v1, u1, hroom⟩
      obtain ⟨f1, f2, f3, f4⟩ := grown_facts hok
      obtain ⟨n, hn⟩ : ∃ n, grown l m h v u = n := ⟨_, rfl⟩
      rw [hn] at f1 f2 f3 f4
      obtain ⟨q3, hq3, b3⟩ : ∃ q3 : Int, (if m < h then m else h) = q3 ∧ q3 ≤ n := ⟨_, rfl, by split <;> omega⟩
      have HN := Lib.hid hn
      have HOK := Lib.hid hok
      clear hn hok f3
      go_wp2_with fail
      refine (grown_at l m h v u n true HN.out HOK.out _).mono ?_
      rintro e W1 ⟨rfl, hb1⟩
      have c1 : W1.cell? ⟨W.heap.size, 0, none⟩ = some (.int .i64 l) := bcell hb1 (by simp)
      have d1 : W1.cell? ⟨W.heap.size, 1, none⟩ = some (.int .i64 m) := bcell hb1 (by simp)
      have H1 := Lib.hid (((HB.out.alloc HB.out.size _).alloc (by have := HB.out.size; simp; omega) _).trans (hb1.mono (by have := HB.out.size; simp; omega)))
      clear hb1
      go_wp2_with fail
      refine (shrunk_at l m h v k (by omega) HK.out _).mono ?_
      rintro e W2 ⟨rfl, hb2⟩
      have c2 := bcell hb2 c1
      have d2 := bcell hb2 d1
      have H2 := Lib.hid (H1.out.trans (hb2.mono H1.out.size))
      clear hb2 c1 d1
      go_wp2_with fail
      refine (shrunk_at l m k v k (by omega) HA.out _).mono ?_
      rintro e W3 ⟨rfl, hb3⟩
      have c3 := bcell hb3 c2
      have d3 := bcell hb3 d2
      have H3 := Lib.hid (H2.out.trans (hb3.mono H2.out.size))
      clear hb3 c2 d2
      go_wp2_with fail
      cases hok2 : okG l m h v (u + 1)
      · have HO2 := Lib.hid hok2
        have HG2 := Lib.hid (grown_no hok2)
        clear hok2
        refine (grown_at l m h v (u + 1) 0 false HG2.out HO2.out _).mono ?_
        rintro e W4 ⟨rfl, hb4⟩
        have H4 := Lib.hid (H3.out.trans (hb4.mono H3.out.size))
        clear hb4 c3 d3
        go_wp2_with fail
        go_ret
        exact ⟨rfl, H4.out⟩
      · obtain ⟨_, hmore⟩ := grown_more hok2 u1
        obtain ⟨n2, hn2⟩ : ∃ n2, grown l m h v (u + 1) = n2 := ⟨_, rfl⟩
        rw [hn2, HN.out] at hmore
        have HO2 := Lib.hid hok2
        have HG2 := Lib.hid hn2
        clear hok2 hn2
        refine (grown_at l m h v (u + 1) n2 true HG2.out HO2.out _).mono ?_
        rintro e W4 ⟨rfl, hb4⟩
        have H4 := Lib.hid (H3.out.trans (hb4.mono H3.out.size))
        clear hb4 c3 d3
        go_wp2_with fail
        go_ret
        exact ⟨rfl, H4.out⟩
    · have hok : okG l m h v u = false := okG_no _ _ _ _ _ (by omega)
      have HOK := Lib.hid hok
      have HN := Lib.hid (grown_no hok)
      clear hok
      go_wp2_with fail
      refine (grown_at l m h v u 0 false HN.out HOK.out _).mono ?_
      rintro e W1 ⟨rfl, hb1⟩
      have c1 : W1.cell? ⟨W.heap.size, 0, none⟩ = some (.int .i64 l) := bcell hb1 (by simp)
      have d1 : W1.cell? ⟨W.heap.size, 1, none⟩ = some (.int .i64 m) := bcell hb1 (by simp)
      have H1 := Lib.hid (((HB.out.alloc HB.out.size _).alloc (by have := HB.out.size; simp; omega) _).trans (hb1.mono (by have := HB.out.size; simp; omega)))
      clear hb1
      go_wp2_with fail
      refine (shrunk_at l m h v k (by omega) HK.out _).mono ?_
      rintro e W2 ⟨rfl, hb2⟩
      have c2 := bcell hb2 c1
      have d2 := bcell hb2 d1
      have H2 := Lib.hid (H1.out.trans (hb2.mono H1.out.size))
      clear hb2 c1 d1
      go_wp2_with fail
      refine (shrunk_at l m k v k (by omega) HA.out _).mono ?_
      rintro e W3 ⟨rfl, hb3⟩
      have c3 := bcell hb3 c2
      have d3 := bcell hb3 d2
      have H3 := Lib.hid (H2.out.trans (hb3.mono H2.out.size))
      clear hb3 c2 d2
      go_wp2_with fail
      have hok2 : okG l m h v (u + 1) = false := okG_no _ _ _ _ _ (by omega)
      have HO2 := Lib.hid hok2
      have HG2 := Lib.hid (grown_no hok2)
      clear hok2
      refine (grown_at l m h v (u + 1) 0 false HG2.out HO2.out _).mono ?_
      rintro e W4 ⟨rfl, hb4⟩
      have H4 := Lib.hid (H3.out.trans (hb4.mono H3.out.size))
      clear hb4 c3 d3
      go_wp2_with fail
      go_ret
      exact ⟨rfl, H4.out⟩
end Go.Proofs.Ytfchkgihiclkkaa
