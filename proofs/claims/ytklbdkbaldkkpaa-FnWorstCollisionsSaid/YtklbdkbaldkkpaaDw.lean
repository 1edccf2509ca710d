/- Draws of chapter 7: lists of hops (DrawWorstCollisions). No condition beyond lengths. -/
import Derived.Test.YtklbdkbaldkkpaaDx
import Derived.Test.YtklbdkbaldkkpaaMi
namespace Go.Proofs.Ytklbdkbaldkkpaa
open Go.RowKit

/-- The value v is the call's own row of rows. -/
abbrev OwnVM := OwnVF RowI.v 27
/-- Each row is the call's own. -/
def OwnRs (w : World) (lo : Nat) (rs : List RowI) : Prop := ∀ r ∈ rs, Own w lo r.ao r.n r.c r.l ∧ r.n ≤ 301
theorem OwnRs.gr {w w' : World} {g lo : Nat} {rs : List RowI} (h : OwnRs w lo rs) (hg : w.grownBy w' (some g)) (hlt : g < lo) : OwnRs w' lo rs := fun r hr => ⟨(h r hr).1.gr hg hlt, (h r hr).2⟩
theorem OwnRs.below {w w' : World} {lo : Nat} {rs : List RowI} (h : OwnRs w lo rs) (hb : Below w.heap.size w w') : OwnRs w' lo rs := fun r hr => ⟨(h r hr).1.below hb, (h r hr).2⟩
theorem own_apart {w : World} {lo lo' n c : Nat} {ao : Option Addr} {l : List Int} {v : Value} {rs : List RowI} (h : Own w lo ao n c l) (hv : OwnVM w lo' v rs) : ∀ k, ao.map (·.block) = some k → v.ownBlock ≠ some k := by
  intro k hk e
  rcases h.2.2.2 with ⟨h1, _⟩ | ⟨g, cap, cur, h1, _, h3, _⟩
  · cases h1; cases hk
  · cases h1
    obtain rfl : g = k := by simpa using hk
    rcases hv.2 with ⟨h4, _⟩ | ⟨g', cap', cur', h4, _, h6, _⟩
    · subst h4; cases e
    · subst h4
      obtain rfl : g' = g := by simpa [Value.ownBlock] using e
      rw [h3] at h6
      simp at h6
theorem Own.row {w w' : World} {lo lo' n c : Nat} {ao : Option Addr} {l : List Int} {v : Value} {rs : List RowI} (h : Own w lo ao n c l) (hv : OwnVM w lo' v rs) (hg : w.grownBy w' v.ownBlock) : Own w' lo ao n c l := by
  refine ⟨h.1, h.2.1, h.2.2.kept hg ?_⟩
  rw [ownBlock_slice]
  cases ao with
  | none => exact .inl rfl
  | some a => right; have := own_apart h hv a.block rfl; exact fun e => this e.symm
theorem OwnRs.row {w w' : World} {lo lo' : Nat} {qs rs : List RowI} {v : Value} (h : OwnRs w lo qs) (hv : OwnVM w lo' v rs) (hg : w.grownBy w' v.ownBlock) : OwnRs w' lo qs := fun r hr => ⟨(h r hr).1.row hv hg, (h r hr).2⟩
theorem OwnRs.snoc {w : World} {lo : Nat} {rs : List RowI} {y : RowI} (h : OwnRs w lo rs) (hy : Own w lo y.ao y.n y.c y.l) (hn : y.n ≤ 301) : OwnRs w lo (rs ++ [y]) := by
  intro r hr
  rcases List.mem_append.1 hr with hr | hr
  · exact h r hr
  · rw [List.mem_singleton] at hr; subst hr; exact ⟨hy, hn⟩
theorem own_zero {w : World} {lo n c : Nat} {ao : Option Addr} {l : List Int} (h : Own w lo ao n c l) : Own w lo ao 0 c [] := by
  refine ⟨rfl, by omega, rfl, ?_⟩
  rcases h.2.2.2 with ⟨h1, h2⟩ | ⟨g, cap, cur, h1, h2, h3, h4, h5, h6, _⟩
  · cases h1; exact .inl ⟨rfl, rfl⟩
  · cases h1; exact .inr ⟨g, c, cur, rfl, h2, h3, by omega, h5, h6, by simp⟩
/-- The post: a list of hops. -/
def RetM (w : World) (e : Ending) (w' : World) : Prop :=
  ∃ ao n c, ∃ rs : List RowI, e = .returned (.slice ao n c) ∧ RdM w' ao n rs ∧ n ≤ c ∧ rs.length ≤ 9 ∧ (∀ r ∈ rs, r.n ≤ 301) ∧ Below w.heap.size w w'
theorem retM_own {w w' : World} {lo : Nat} {v : Value} {rs : List RowI} (hv : OwnVM w' lo v rs) (hr : OwnRs w' lo rs) (h9 : rs.length ≤ 9) (hb : Below w.heap.size w w') : RetM w (.returned v) w' := by
  obtain ⟨ao, n, c, rfl, ho⟩ := hv.own (by omega)
  exact ⟨ao, n, c, rs, rfl, ⟨ho.rd, fun r h => ⟨(hr r h).1.rd, (hr r h).1.rdc.2.1⟩⟩, ho.cap, h9, fun r h => (hr r h).2, hb⟩

set_option maxRecDepth 100000 in
set_option maxHeartbeats 3200000 in
theorem DrawWorstCollisions_c {w : World} {ao : Option Addr} {n c : Nat} (h : CodeW w ao n c) : Calls Try.prog 26 #[.slice ao n c] w (RetM w) := by
  obtain ⟨lb, hR, hcap, hby⟩ := h
  go_enter Try.func26, Try.ntmps26
  go_wp2_with fail
  refine (l9Open_c hR hcap hby).mono ?_; rintro e w1 ⟨rfl, hr1, hB1⟩
  clear hR hby
  obtain ⟨g, hg⟩ : ∃ g, w.heap.size = g := ⟨_, rfl⟩
  rw [hg] at hr1 hB1 ⊢
  have hgl := hr1.lt
  obtain ⟨L, hL⟩ : ∃ L, w1.heap.size = L := ⟨_, rfl⟩
  have hgL : g < L := by omega
  have hv0 : OwnVM (w1.alloc (.cells #[] 27)) L (.slice (some ⟨w1.heap.size, 0, none⟩) 0 0) [] := OwnVF.made0 _ _ w1 (Nat.le_of_eq hL.symm)
  have hbl : Below w1.heap.size w1 (w1.alloc (.cells #[] 27)) := (Below.refl _ _).alloc (Nat.le_refl _) _
  have hr2 := hr1.below hbl
  have hB2 := hB1.trans (hbl.mono (by omega))
  have hLa : L ≤ (w1.alloc (.cells #[] 27)).heap.size := by simp; omega
  have hL1 : L ≤ w1.heap.size := by omega
  clear hr1 hB1 hbl hL
  go_wp2_with fail
  refine (l7Some_c hr2 (by omega)).mono ?_; rintro e w3 ⟨a1, n1, c1, l1, ch, q1, rfl, ho1, hch, hv, h0, h14, hq0, hq1, hr3, hg3⟩
  have hv3 : OwnVM w3 L _ [] := ownsRow_gr hv0 hg3 hgL
  have ho3 : Own w3 L a1 n1 c1 l1 := ho1.mono hLa
  have hB3 := hB2.trans (below_of_gr hg3 (Nat.le_refl _) (by have := hB2.size; omega))
  have HN := Lib.hid ho1.1
  have hn14 : n1 ≤ 14 := by have := HN.out; omega
  have hn0 : 0 < n1 := by have := HN.out; omega
  have hs1 := ho1.2.1
  clear hv0 hr2 hB2 ho1 hg3 hv
  go_wp2_with fail
  refine (pick_c _ hr3 (by omega)).mono ?_; rintro e w4 ⟨m, rfl, m0, m1, hr4, hg4⟩
  have hv4 : OwnVM w4 L _ [] := ownsRow_gr hv3 hg4 hgL
  have ho4 := ho3.gr hg4 hgL
  have hB4 := hB3.trans (below_of_gr hg4 (Nat.le_refl _) (by have := hB3.size; omega))
  have hLz : L ≤ w4.heap.size := by have := hr4.lt; have := (hv4.lt w1.heap.size rfl).2; omega
  clear hv3 hr3 hB3 ho3 hg4
  obtain ⟨k, rfl⟩ := Int.eq_ofNat_of_zero_le m0
  have hk4 : k ≤ 4 := by omega
  clear m0 m1
  go_wp2_with fail
  go_loopw [4, 7] (fun v i wr => ∃ (k : Nat) (rs : List RowI), i = .int .i64 k ∧ rs.length + k ≤ 4 ∧ OwnVM wr L v rs ∧ OwnRs wr L rs ∧ Own wr L a1 n1 c1 l1 ∧ (∃ q, Rdr wr g q ∧ q + 14 * k ≤ 1000) ∧ Below g w wr ∧ L ≤ wr.heap.size) (fun _ i _ => (intOf i).toNat)
  case atStart => exact ⟨k, [], rfl, by simpa using hk4, hv4, (fun r hr => by cases hr), ho4, ⟨_, hr4, by omega⟩, hB4, hLz⟩
  case round =>
    clear hv4 ho4 hr4 hB4 hLz hk4
    obtain ⟨k, rs, rfl, hrk, hvo, hrs, ho, ⟨q, hr, hq⟩, hB, hLz⟩ := hrel
    by_cases hk0 : 0 < k
    · obtain ⟨wo, rfl⟩ : ∃ wo : World, wo = wr := ⟨_, rfl⟩
      have hb0 : OwnV (wo.alloc (.cells #[] 3)) wo.heap.size (.slice (some ⟨wo.heap.size, 0, none⟩) 0 0) [] := OwnV.made0 wo (Nat.le_refl _)
      have hgr0 := gr_of_below ((Below.refl _ _).alloc (Nat.le_refl wo.heap.size) (.cells #[] 3)) (some g)
      have hrr0 := hr.alloc (.cells #[] 3)
      have hglo := hr.lt
      go_wp2_with fail
      go_loopw [8] (fun vb wq => ∃ l : List Int, l.length ≤ n1 ∧ OwnV wq wo.heap.size vb l ∧ Rdr wq g (q + l.length) ∧ wo.grownBy wq (some g)) (fun vb _ => match vb with | .slice _ k _ => n1 - k | _ => 0)
      case atStart => exact ⟨[], Nat.zero_le _, hb0, hrr0, hgr0⟩
      case round =>
        clear hb0 hgr0 hrr0
        obtain ⟨l, hl, hov, hrq, hgq⟩ := hrel
        have hzq := hgq.size
        obtain ⟨av, nv, cv, hv', hov2⟩ := hov.own (by omega)
        subst hv'
        have HV := Lib.hid hov2.1
        have hvn : nv ≤ n1 := by have := HV.out; omega
        by_cases hlt : nv < n1
        · go_wp2_with fail
          refine (pick_c _ hrq (by omega)).mono ?_; rintro e w5 ⟨x, rfl, x0, x1, hr5, hg5⟩
          have hov3 := hov.gr hg5 hglo
          have hgA := hgq.trans hg5
          have hzA := hgA.size
          clear hov hov2 hrq hgq hg5
          go_wp2_with (at_builtin; refine wp_app1 w5 rfl (.tmp 29) (.tmp 33) rfl wo.heap.size _ l x rfl hov3 rfl (by omega) hzA ?_; intro v' w6 hov5 hgr5 hb5)
          obtain ⟨a5, n5, c5, hv5, hov6⟩ := hov5.own (by simp; omega)
          have hn5 : n5 = nv + 1 := by rw [hov6.1, List.length_append, ← HV.out]; rfl
          subst hv5
          subst hn5
          have hr6 := hr5.farGt2 hb5 hglo
          have hgB := gr_trans_below2 hgA hb5
          clear hov3 hr5 hgA hgr5 hb5
          go_roundw
          case rel => exact ⟨l ++ [x], by rw [List.length_append, ← HV.out]; simp; omega, hov5, by rw [List.length_append]; simpa [Nat.add_assoc] using hr6, hgB⟩
          case measure => simp; omega
        · have hnv : nv = n1 := by omega
          subst hnv
          have hll : l.length ≤ 14 := by have := HV.out; omega
          have hvq : OwnVM wr L _ rs := ownsRow_gr hvo hgq hgL
          have hrsq := hrs.gr hgq hgL
          have hoq := ho.gr hgq hgL
          have hBq := hB.trans (below_of_gr hgq (Nat.le_refl _) (by omega))
          have hLq : L ≤ wr.heap.size := Nat.le_trans hLz hzq
          have hbo := hov2.mono hLz
          have hrl : rs.length ≤ 4 := by omega
          clear hov hov2 hvo hrs ho hB hlt hgq
          go_wp2_with (at_builtin; refine wp_app1F 45 27 24 zrow Try.underlying45 info_ints rfl (by decide) (fun _ => rfl) wr rfl _ _ rfl L _ rs ⟨av, nv, cv, l⟩ rfl (by exact hvq) rfl (by omega) hLq ?_; intro v' w7 hown7 hgr7 hb7)
          have hrs7 := (hrsq.row hvq hgr7).snoc (y := ⟨av, nv, cv, l⟩) (hbo.row hvq hgr7) (show nv ≤ 301 by omega)
          have ho7 := hoq.row hvq hgr7
          have hr7 := hrq.farGt2 hb7 hgL
          have hB7 := hBq.trans (hb7.mono (by omega))
          have hL7 := Nat.le_trans hLq hb7.size
          clear hrsq hvq hbo hoq hrq hBq hgr7 hb7
          go_roundw
          case rel => exact ⟨k - 1, rs ++ [⟨av, nv, cv, l⟩], by go_num, by rw [List.length_append]; simp; omega, hown7, hrs7, ho7, ⟨_, hr7, by omega⟩, hB7, hL7⟩
          case measure => simp [intOf]; omega
    · obtain rfl : k = 0 := by omega
      have hlz := hr.lt
      go_wp2_with fail
      refine (pick_c _ hr (by omega)).mono ?_; rintro e w5 ⟨u, rfl, u0, u1, hr5, hg5⟩
      have hv5 : OwnVM w5 L _ rs := ownsRow_gr hvo hg5 hgL
      have hrs5 := hrs.gr hg5 hgL
      have ho5 := ho.gr hg5 hgL
      have hB5 := hB.trans (below_of_gr hg5 (Nat.le_refl _) (by omega))
      have hL5 := Nat.le_trans hLz hg5.size
      have hrl : rs.length ≤ 4 := by omega
      obtain ⟨b, rfl⟩ : ∃ b, a1 = some ⟨b, 0, none⟩ := by
        rcases ho5.2.2.2 with ⟨h1, h2⟩ | ⟨g', cap, cur, hv', _⟩
        · cases h1; omega
        · cases hv'; exact ⟨g', rfl⟩
      have hcap : n1 ≤ c1 := ho5.rdc.2.1
      clear hvo hrs ho hr hB hLz hg5 u1
      by_cases hu0 : (u == 0) = true
      · by_cases hc1 : c1 = 1
        · have hn1 : n1 = 1 := by omega
          subst hc1
          subst hn1
          go_wp2_with (at_builtin; refine wp_app1F 45 27 24 zrow Try.underlying45 info_ints rfl (by decide) (fun _ => rfl) w5 rfl _ _ rfl L _ rs ⟨some ⟨b, 0, none⟩, 0, 0, []⟩ rfl (by exact hv5) rfl (by omega) hL5 ?_; intro v' w7 hown7 hgr7 hb7)
          have hrs7 := hrs5.row hv5 hgr7
          have hB7 := hB5.trans (hb7.mono (by omega))
          obtain ⟨a8, n8, c8, hv8, ho8⟩ := hown7.own (by simp; omega)
          subst hv8
          go_ret
          refine ⟨a8, n8, c8, _, rfl, ⟨ho8.rd, fun r hr => ?_⟩, ho8.cap, by simp; omega, fun r hr => ?_, by rw [hg]; exact hB7⟩
          · rcases List.mem_append.1 hr with hr | hr
            · exact ⟨(hrs7 r hr).1.rd, (hrs7 r hr).1.rdc.2.1⟩
            · rw [List.mem_singleton] at hr; subst hr; exact ⟨Rd.zero _ _, Nat.le_refl _⟩
          · rcases List.mem_append.1 hr with hr | hr
            · exact (hrs7 r hr).2
            · rw [List.mem_singleton] at hr; subst hr; show 0 ≤ 301; omega
        · have hn1' : (1 : Int) ≤ (n1 : Int) := by omega
          have hd := ho5.rd.drop (show 1 ≤ n1 by omega)
          have HD := Lib.hid (show ∀ w7 : World, w5.grownBy w7 _ → Rd w7 (some ⟨b, 0 + 1, none⟩) (n1 - 1) (l1.drop 1) from fun w7 hg7 => ((ho5.row hv5 hg7).rd.drop (show 1 ≤ n1 by omega)))
          clear hd
          go_wp2_with (at_builtin; refine wp_app1F 45 27 24 zrow Try.underlying45 info_ints rfl (by decide) (fun _ => rfl) w5 rfl _ _ rfl L _ rs ⟨some ⟨b, 1, none⟩, n1 - 1, c1 - 1, l1.drop 1⟩ rfl (by exact hv5) rfl (by omega) hL5 ?_; intro v' w7 hown7 hgr7 hb7)
          have hrs7 := hrs5.row hv5 hgr7
          have hB7 := hB5.trans (hb7.mono (by omega))
          have hd7 := HD.out _ hgr7
          rw [Nat.zero_add] at hd7
          obtain ⟨a8, n8, c8, hv8, ho8⟩ := hown7.own (by simp; omega)
          subst hv8
          go_ret
          refine ⟨a8, n8, c8, _, rfl, ⟨ho8.rd, fun r hr => ?_⟩, ho8.cap, by simp; omega, fun r hr => ?_, by rw [hg]; exact hB7⟩
          · rcases List.mem_append.1 hr with hr | hr
            · exact ⟨(hrs7 r hr).1.rd, (hrs7 r hr).1.rdc.2.1⟩
            · rw [List.mem_singleton] at hr; subst hr; exact ⟨hd7, by show n1 - 1 ≤ c1 - 1; omega⟩
          · rcases List.mem_append.1 hr with hr | hr
            · exact (hrs7 r hr).2
            · rw [List.mem_singleton] at hr; subst hr; show n1 - 1 ≤ 301; omega
      · have hu0' : (u == 0) = false := by simpa using hu0
        clear hu0
        by_cases hu1 : (u == 1) = true
        · go_wp2_with fail
          go_loopw [4] (fun v wr => ∃ qs : List RowI, qs.length ≤ 9 ∧ OwnVM wr L v qs ∧ OwnRs wr L qs ∧ Own wr L (some ⟨b, 0, none⟩) n1 c1 l1 ∧ Below g w wr ∧ L ≤ wr.heap.size) (fun v _ => match v with | .slice _ k _ => 9 - k | _ => 0)
          case atStart => exact ⟨rs, by omega, hv5, hrs5, ho5, hB5, hL5⟩
          case round =>
            clear hv5 hrs5 ho5 hB5 hL5
            obtain ⟨qs, hq9, hvq, hrq, hoq, hBq, hLq⟩ := hrel
            obtain ⟨av, nv, cv, hv', hov⟩ := hvq.own (by omega)
            subst hv'
            have HV := Lib.hid hov.1
            by_cases hlt : nv < 9
            · have HQL := Lib.hid (show qs.length ≤ 8 by have := HV.out; omega)
              go_wp2_with (at_builtin; refine wp_app1F 45 27 24 zrow Try.underlying45 info_ints rfl (by decide) (fun _ => rfl) wr rfl _ _ rfl L _ qs ⟨some ⟨b, 0, none⟩, n1, c1, l1⟩ rfl (by exact hvq) rfl (by omega) hLq ?_; intro v' w7 hown7 hgr7 hb7)
              have ho7 := hoq.row hvq hgr7
              have hrs7 := (hrq.row hvq hgr7).snoc (y := ⟨some ⟨b, 0, none⟩, n1, c1, l1⟩) ho7 (show n1 ≤ 301 by omega)
              have hB7 := hBq.trans (hb7.mono (by omega))
              have hL7 := Nat.le_trans hLq hb7.size
              obtain ⟨a8, n8, c8, hv8, ho8⟩ := hown7.own (by rw [List.length_append]; simp; have := HQL.out; omega)
              have hn8 : n8 = nv + 1 := by rw [ho8.1, List.length_append, ← HV.out]; rfl
              subst hv8
              subst hn8
              clear hrq hvq hoq hBq hgr7 hb7 hov ho8
              go_roundw
              case rel => exact ⟨_, by rw [List.length_append]; simp; have := HQL.out; omega, hown7, hrs7, ho7, hB7, hL7⟩
              case measure => simp; omega
            · go_wp2_with fail
              go_ret
              exact retM_own hvq hrq hq9 (by rw [hg]; exact hBq)
        · have hu1' : (u == 1) = false := by simpa using hu1
          clear hu1
          by_cases hu2 : (u == 2) = true
          · have hz5 := own_zero ho5
            have hc0 : (0 : Int) ≤ (c1 : Int) := by omega
            go_wp2_with fail
            refine (l7Bad_c hr5 (by omega) hz5 hgL (by simp) hL5).mono ?_; rintro e w6 ⟨a2, n2, c2, l2, q2, rfl, hrc, h301, hq2, hq3, hr6, hgB, hne2⟩
            have hB6 := hB5.trans (hgB.below (Nat.le_refl g) (fun a ha => Nat.le_of_lt (Nat.lt_of_lt_of_le hgL (hz5.lt a ha).1)) (by omega))
            have hbl6 : Below w6.heap.size w6 (w6.alloc (.cells #[(⟨a2, n2, c2, l2⟩ : RowI).v] 27)) := (Below.refl _ _).alloc (Nat.le_refl _) _
            have hrc7 := hrc.below hbl6
            have hB7 := hB6.trans (hbl6.mono (by have := hr6.lt; omega))
            have hBxx := Box.new w6 #[(⟨a2, n2, c2, l2⟩ : RowI).v] 27
            clear hr5 hv5 hrs5 ho5 hB5 hz5 hgB hr6 hB6
            go_wp2_with fail
            go_ret
            refine ⟨_, _, _, [⟨a2, n2, c2, l2⟩], rfl, ⟨⟨rfl, by omega, fun i hi => ?_⟩, fun r hr => ?_⟩, Nat.le_refl _, by simp, fun r hr => ?_, by rw [hg]; exact hB7⟩
            · obtain rfl : i = 0 := by simpa using hi
              exact ⟨_, _, rfl, by rw [Nat.add_zero]; exact hBxx.cell rfl⟩
            · rw [List.mem_singleton] at hr; subst hr; exact ⟨hrc7.1, hrc7.2.1⟩
            · rw [List.mem_singleton] at hr; subst hr; show n2 ≤ 301; have := hrc7.1.1; omega
          · have hu2' : (u == 2) = false := by simpa using hu2
            clear hu2
            go_wp2_with fail
            go_ret
            exact retM_own hv5 hrs5 (by omega) (by rw [hg]; exact hB5)

end Go.Proofs.Ytklbdkbaldkkpaa
