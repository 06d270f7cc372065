/- The document's log (layer 7): Restart; the walk. -/
import Derived.Test.YtediidajdpdeiaaDoorJ20
import Derived.Test.YtediidajdpdeiaaDoorJ18
import Derived.Test.YtediidajdpdeiaaDoorJ13
import Derived.Test.YtediidajdpdeiaaDoorJ19
import Derived.Test.YtediidajdpdeiaaDoorJ17

namespace Go.Proofs.YtediidajdpdeiaaDoor
open Go.RowKit CrcM
set_option maxRecDepth 100000

theorem take_set_mid {outs gs : List Sg} {k : Nat} (hol : outs.length = k) (x : Rk) : (((outs ++ gs.drop k).map (fun g : Sg => g.d.ref)).set k x).take k = outs.map (fun g : Sg => g.d.ref) := by
  rw [List.map_append, List.set_append_right _ _ (by rw [List.length_map]; omega), List.take_left' (by rw [List.length_map]; exact hol)]
theorem Dk.restart_all (D : Dk) : D.restart.1.all = D.all := by unfold Dk.restart; split <;> rfl
theorem Dk.cut_len (D : Dk) (n : Int) : (D.cut n).1.all.length ≤ D.all.length := by
  unfold Dk.cut
  split
  · exact Nat.le_refl _
  · split
    · exact Nat.le_refl _
    · simp only [List.length_take]; omega

section
variable {S H : Nat → Prop} {w : World} {b : Nat} {A : Option Addr} {c : Nat} {ps : List Nat}
set_option maxHeartbeats 2000000 in
theorem refLogRestart_B {L : Lg} {m : Nat} (h : RlogO S H w b A c ps L.ref) (hinv : L.inv m) :
    Calls Tryd.prog 100 #[.pointer (some ⟨b, 0, none⟩)] w (RlogDid S w (.pointer (some ⟨b, 0, none⟩)) (L.restart.1.ref, L.restart.2)) := by
  obtain ⟨ip, hip, hzp, hsp, hbp⟩ := info_parts info_pr
  have hsg := hinv.segs
  have hper : 1 ≤ L.per ∧ L.per ≤ 1024 := h.per
  obtain ⟨per, gs, dn⟩ := L
  simp only at hsg hper
  obtain ⟨c0, c1, c2, z1, z2, q1, q2, q3, q4⟩ := h.facts
  cases dn
  · have e : Lg.restart ⟨per, gs, false⟩ = (⟨per, gs, false⟩, 9) := by unfold Lg.restart; simp
    have E := Lib.hid e
    clear e q1
    go_enter Tryd.func100, Tryd.ntmps100
    go_wp2
    go_ret
    rw [E.out]
    exact ⟨rfl, h.same, Fr.refl _ _⟩
  · have e : Lg.restart ⟨per, gs, true⟩ = (⟨per, restartS per gs (-1), false⟩, 0) := by unfold Lg.restart; simp
    have E := Lib.hid e
    have HQ := Lib.hid (show ps.length = gs.length by rw [q1]; simp)
    have hS0 := h.hS
    have hbH := h.hb
    have hSl := h.lt
    have hHl : ∀ x, H x → x < w.heap.size := fun x hx => hSl x (hS0 x hx)
    obtain ⟨ho, f1⟩ := h.setDown false
    have hI0 : RestR S H w b A c ps per 0 (.slice none 0 0) (([] ++ gs.drop 0).map (fun g : Sg => g.d.ref)) H (w.setCell ⟨b, 2, none⟩ (.bool false)) :=
      ⟨f1, fun _ h => h, fun _ h => .inl h, fun x hx => ho.lt x (hS0 x hx), ho.blk, ho.row, Row.nil _ _ _, ho.disks.mono (fun _ _ hx => .inl hx) (fun _ _ _ h => h), ho.small⟩
    clear e q1
    go_enter Tryd.func100, Tryd.ntmps100
    go_wp2
    clear c0 c1 c2 z1 z2 ho f1
    generalize w.setCell ⟨b, 2, none⟩ (.bool false) = w0 at *
    go_loopw [3, 4, 5] (fun ov dv iv wr => ∃ (k : Nat) (A' : Option Addr) (c' : Nat) (outs : List Sg) (Hk : Nat → Prop) (d : Int), ov = .slice A' k c' ∧ dv = .int .i64 d ∧ iv = .int .i64 (k : Int) ∧ k ≤ ps.length ∧ RestR S H w b A c ps per k (.slice A' k c') ((outs ++ gs.drop k).map (fun g : Sg => g.d.ref)) Hk wr ∧ restartS per gs (-1) = outs ++ restartS per (gs.drop k) d ∧ outs.length = k) (fun _ _ iv _ => ps.length - (intOf iv).toNat)
    case atStart => exact ⟨0, none, 0, [], H, -1, rfl, rfl, rfl, Nat.zero_le _, hI0, rfl, rfl⟩
    case round =>
      obtain ⟨k, A', c', outs, Hk, d, rfl, rfl, rfl, hkl, hI, hrs, hol⟩ := hrel
      clear hI0
      have HRS := Lib.hid hrs
      have HOL := Lib.hid hol
      have x0 := hI.blk.cell 1 (v := .slice A ps.length c) rfl
      have x0f := hI.blk.frozen 1
      clear hrs hol
      by_cases hlt : k < ps.length
      · obtain ⟨g, hg⟩ : ∃ g, gs[k]? = some g := ⟨_, List.getElem?_eq_getElem (show k < gs.length by have := HQ.out; omega)⟩
        have hdr : gs.drop k = g :: gs.drop (k + 1) := drop_of hg
        have hgl : k < gs.length := (List.getElem?_eq_some_iff.1 hg).1
        obtain ⟨p, hp⟩ : ∃ p, ps[k]? = some p := ⟨_, List.getElem?_eq_getElem hlt⟩
        obtain ⟨ga, oa, rfl, -⟩ := hI.facts hp
        obtain ⟨u1, u2, u3, u4⟩ := hI.at_ hp
        have hpg : ((outs ++ gs.drop k).map (fun g : Sg => g.d.ref))[k]? = some g.d.ref := by rw [List.getElem?_map, at_mid HOL.out hg]; rfl
        obtain ⟨Sd, B1, e1, B2, e2, hd, hup⟩ := hI.disk hbH hp hpg
        have hsm0 := hI.small g.d.ref (List.mem_of_getElem? hpg)
        rw [ref_total] at hsm0
        have hok0 : g.d.ok := (hsg g (List.mem_of_getElem? hg)).dok hsm0
        have hRS : restartS per gs (-1) = outs ++ restartK per (scan g.d.restart.1 d) (restartS per (gs.drop (k + 1))) := by rw [HRS.out, hdr]; rfl
        have hD1 := (ref_restart (D := g.d)).1
        have hDup := Dk.restart_up g.d
        have hDok := Dk.ok_restart hok0
        have hsm1 : g.d.restart.1.all.length ≤ 4194304 := by rw [Dk.restart_all]; exact hsm0
        have hrB := refRestart_B hd
        unfold RefDid at hrB
        rw [← hD1] at hrB
        have hsp := scan_parse g.d.restart.1 d
        generalize hDD : g.d.restart.1 = D1 at *
        clear hDD hD1 hd hpg hsm0 hok0 hdr HRS
        have hset : (((outs ++ gs.drop k).map (fun g : Sg => g.d.ref)).set k D1.ref)[k]? = some D1.ref := List.getElem?_set_self (by rw [List.length_map, List.length_append, List.length_drop, HOL.out]; omega)
        have hrt : D1.ref.kept.length + D1.ref.rest.length ≤ 4194304 := by rw [ref_total]; exact hsm1
        have hRA : D1.ref.all = D1.all := ref_all D1
        obtain ⟨b8, hb8⟩ : ∃ l, D1.all = l := ⟨_, rfl⟩
        obtain ⟨n8, hn8⟩ : ∃ n, b8.length = n := ⟨_, rfl⟩
        rw [hb8] at hRA hsm1
        rw [hb8, hn8] at hsp
        rw [hn8] at hsm1
        have HRA := Lib.hid hRA
        have HN8 := Lib.hid hn8
        have HB8 := Lib.hid hb8
        obtain ⟨bs, rs, en, hpm⟩ : ∃ bs rs en, parseM b8 = (bs, rs, en) := ⟨_, _, _, rfl⟩
        rw [hpm] at hsp
        have HP := Lib.hid hpm
        have HD := Lib.hid hDup
        have HS := Lib.hid hset
        have HRS := Lib.hid hRS
        have hlt' : (k : Int) < (ps.length : Int) := by omega
        have k8 : IntKind.i64.wrap ((k : Int) + 1) = ((k + 1 : Nat) : Int) := by rw [IntKind.wrap_i64]; omega
        clear hRA hn8 hb8 hpm hset hRS hDup
        simp only at hsp
        rcases hsp with ⟨hbad, hsc⟩ | ⟨n, rfl, hdue, hle, hsc⟩
        · have hbad' : bs < 0 ∨ (¬ bs < 0 ∧ 0 ≤ d ∧ (bs != d) = true) := by
            by_cases hb0 : bs < 0
            · exact .inl hb0
            · obtain ⟨h1, h2⟩ := hbad.resolve_left hb0
              exact .inr ⟨hb0, h1, by simpa using h2⟩
          have HC := Lib.hid hsc
          clear hbad hsc
          rcases hbad' with j1 | ⟨j1, j2, j3⟩
          all_goals
            go_wp2_with (first
              | (go_at_call 126; refine hrB.mono ?_; rintro e w1 ⟨rfl, hd1, hf1⟩; have hI1 := hup w1 _ hf1 hd1 hrt; obtain ⟨x1, y1, -, -⟩ := hI1.at_ hp; obtain ⟨Sd1, B3, e3, B4, e4, hr1, -⟩ := hI1.disk hbH hp HS.out; have hal := refAll_B hr1 hrt; rw [HRA.out] at hal)
              | (go_at_call 102; refine hal.mono ?_; rintro e w2 ⟨A3, c3, rfl, ho3, hc3, hm3, hb2⟩; have hpa := parse_B w2 A3 b8 c3 ((Own.of_row' ho3).rd Non) hc3 (by rw [HN8.out]; omega); rw [HP.out] at hpa; unfold ParseDid at hpa; simp only at hpa; rw [HN8.out] at hpa hc3 ⊢)
              | (go_at_call 101; refine hpa.mono ?_; rintro e w3 ⟨R3, cr3, vals3, rfl, -, -, hb3⟩; have hI3 := hI1.below (hb2.trans (hb3.mono hb2.size)); obtain ⟨x3, y3, -, x3f⟩ := hI3.at_ hp))
            have hfin := hI3.finish hS0 hbH hSl hper q2 hkl
            rw [take_set_mid HOL.out] at hfin
            go_ret
            rw [E.out]
            refine ⟨rfl, ?_, hfin.2⟩
            have hout : restartS per gs (-1) = outs := by
              rw [HRS.out, HC.out]
              exact List.append_nil _
            show IsRlog _ _ _ ⟨per, (restartS per gs (-1)).map (fun g : Sg => g.d.ref), false⟩
            rw [hout]
            exact hfin.1
        · have hgk := (scan_ok hDok HD.out hsc).1
          have n1 := hgk.1
          have n2 := hgk.2.1
          simp only at n1 n2
          have j1 : ¬ (n : Int) < 0 := by omega
          have k9 : IntKind.i64.wrap ((n : Int) + (rs.length : Int)) = (n : Int) + (rs.length : Int) := by rw [IntKind.wrap_i64]; omega
          have HC := Lib.hid hsc
          have HGK := Lib.hid hgk
          clear hsc hgk
          have hdue' : ¬ 0 ≤ d ∨ (0 ≤ d ∧ ((n : Int) != d) = false) := by
            by_cases hd0 : 0 ≤ d
            · exact .inr ⟨hd0, by have : (n : Int) = d := by omega
                                  simpa using this⟩
            · exact .inl hd0
          obtain ⟨D2, hD2⟩ : ∃ D, (D1.cut en).1 = D := ⟨_, rfl⟩
          have hcu := (ref_cut (D := D1) (en : Int)).1
          have hct : D2.ref.kept.length + D2.ref.rest.length ≤ 4194304 := by
            rw [ref_total, ← hD2]
            exact Nat.le_trans (Dk.cut_len _ _) (by rw [HB8.out, HN8.out]; exact hsm1)
          rw [hD2] at hcu
          have hds : (((outs ++ gs.drop k).map (fun g : Sg => g.d.ref)).set k D1.ref).set k D2.ref = ((outs ++ [(⟨D2, n, rs, rs.length⟩ : Sg)]) ++ gs.drop (k + 1)).map (fun g : Sg => g.d.ref) := by
            rw [List.set_set, ← set_mid HOL.out hgl, List.map_set]
          have hRS2 : restartS per gs (-1) = (outs ++ [(⟨D2, n, rs, rs.length⟩ : Sg)]) ++ (if decide (en = n8) = false ∨ rs.length < per then [] else restartS per (gs.drop (k + 1)) ((n + rs.length : Nat) : Int)) := by
            rw [HRS.out, HC.out, hD2, List.append_assoc]
            rfl
          have htl : ((ps.take k).map ptr ++ [ptr p]).length = k + 1 := by rw [List.length_append, List.length_map, List.length_take, List.length_singleton]; omega
          have hm0 : ((ps.take k).map ptr).length = k := by rw [List.length_map, List.length_take]; omega
          have HM4 : ((ps.take k).map ptr).length + 1 ≤ maxLen := by rw [hm0]; unfold maxLen; omega
          have HM5 : (((ps.take k).map ptr).length + 1) * 8 ≤ 140737488355328 := by rw [hm0]; omega
          have HTL := Lib.hid htl
          have HCU := Lib.hid hcu
          have HDS := Lib.hid hds
          have HR2 := Lib.hid hRS2
          have hcase : (en : Int) < (n8 : Int) ∨ (¬ (en : Int) < (n8 : Int) ∧ (rs.length : Int) < (per : Int)) ∨ (¬ (en : Int) < (n8 : Int) ∧ ¬ (rs.length : Int) < (per : Int)) := by omega
          clear hdue hD2 hcu hds hRS2 htl hm0
          rcases hdue' with j2 | ⟨j2, j3⟩
          all_goals
            rcases hcase with t1 | ⟨t1, t2⟩ | ⟨t1, t2⟩
            · go_wp2_with (first
                | (go_at_call 126; refine hrB.mono ?_; rintro e w1 ⟨rfl, hd1, hf1⟩; have hI1 := hup w1 _ hf1 hd1 hrt; obtain ⟨x1, y1, -, -⟩ := hI1.at_ hp; obtain ⟨Sd1, B3, e3, B4, e4, hr1, -⟩ := hI1.disk hbH hp HS.out; have hal := refAll_B hr1 hrt; rw [HRA.out] at hal)
                | (go_at_call 102; refine hal.mono ?_; rintro e w2 ⟨A3, c3, rfl, ho3, hc3, hm3, hb2⟩; have hpa := parse_B w2 A3 b8 c3 ((Own.of_row' ho3).rd Non) hc3 (by rw [HN8.out]; omega); rw [HP.out] at hpa; unfold ParseDid at hpa; simp only at hpa; rw [HN8.out] at hpa hc3 ⊢)
                | (go_at_call 101; refine hpa.mono ?_; rintro e w3 ⟨R3, cr3, vals3, rfl, -, -, hb3⟩; have hI3 := hI1.below (hb2.trans (hb3.mono hb2.size)); obtain ⟨x3, y3, -, x3f⟩ := hI3.at_ hp; obtain ⟨Sd3, B5, e5, B6, e6, hr3, hup3⟩ := hI3.disk hbH hp HS.out; have hcut := refCut_B hr3 (en : Int); unfold RefDid at hcut; rw [← HCU.out] at hcut)
                | (go_at_call 127; refine hcut.mono ?_; rintro e w4 ⟨rfl, hd4, hf4⟩; have hI4 := hup3 w4 _ hf4 hd4 hct; rw [HDS.out] at hI4; obtain ⟨x4, y4, -, -⟩ := hI4.at_ hp; have hI4a := hI4.below (below_new w4 (.cells #[ptr p] TPr)))
                | (at_builtin; refine wpList_append_row rfl (.tmp 69) (.tmp 77) 84 rfl TPr ip _ 8 Tryd.underlying84 hip hzp hsp hbp rfl (.slice A' k c') ((ps.take k).map ptr) rfl hI4a.out ⟨w4.heap.size, 0, none⟩ (ptr p) rfl (heap_new_cell _ _ _) rfl HM4 HM5 (by decide) ?_; intro v5 w5 hrow5 hf5 hoth5; obtain ⟨A5, c5, rfl, hc5, hm5⟩ := hrow5.val; have hI5 := hI4a.more hSl hHl hbH hp hf5 hrow5; rw [HTL.out] at hI5 hc5 ⊢; obtain ⟨x5, -, z5, x5f⟩ := hI5.at_ hp))
              have hfin := hI5.finish hS0 hbH hSl hper q2 hlt
              have hte : (((outs ++ [(⟨D2, n, rs, rs.length⟩ : Sg)]) ++ gs.drop (k + 1)).map (fun g : Sg => g.d.ref)).take (k + 1) = (outs ++ [(⟨D2, n, rs, rs.length⟩ : Sg)]).map (fun g : Sg => g.d.ref) := by
                rw [List.map_append, List.take_left' (by rw [List.length_map, List.length_append, HOL.out]; rfl)]
              rw [hte] at hfin
              clear hte
              go_ret
              rw [E.out]
              refine ⟨rfl, ?_, hfin.2⟩
              have hout : restartS per gs (-1) = outs ++ [(⟨D2, n, rs, rs.length⟩ : Sg)] := by
                rw [HR2.out, if_pos (.inl (decide_eq_false (by omega)))]
                exact List.append_nil _
              show IsRlog _ _ _ ⟨per, (restartS per gs (-1)).map (fun g : Sg => g.d.ref), false⟩
              rw [hout]
              exact hfin.1
            · go_wp2_with (first
                | (go_at_call 126; refine hrB.mono ?_; rintro e w1 ⟨rfl, hd1, hf1⟩; have hI1 := hup w1 _ hf1 hd1 hrt; obtain ⟨x1, y1, -, -⟩ := hI1.at_ hp; obtain ⟨Sd1, B3, e3, B4, e4, hr1, -⟩ := hI1.disk hbH hp HS.out; have hal := refAll_B hr1 hrt; rw [HRA.out] at hal)
                | (go_at_call 102; refine hal.mono ?_; rintro e w2 ⟨A3, c3, rfl, ho3, hc3, hm3, hb2⟩; have hpa := parse_B w2 A3 b8 c3 ((Own.of_row' ho3).rd Non) hc3 (by rw [HN8.out]; omega); rw [HP.out] at hpa; unfold ParseDid at hpa; simp only at hpa; rw [HN8.out] at hpa hc3 ⊢)
                | (go_at_call 101; refine hpa.mono ?_; rintro e w3 ⟨R3, cr3, vals3, rfl, -, -, hb3⟩; have hI3 := hI1.below (hb2.trans (hb3.mono hb2.size)); obtain ⟨x3, y3, -, x3f⟩ := hI3.at_ hp; obtain ⟨Sd3, B5, e5, B6, e6, hr3, hup3⟩ := hI3.disk hbH hp HS.out; have hcut := refCut_B hr3 (en : Int); unfold RefDid at hcut; rw [← HCU.out] at hcut)
                | (go_at_call 127; refine hcut.mono ?_; rintro e w4 ⟨rfl, hd4, hf4⟩; have hI4 := hup3 w4 _ hf4 hd4 hct; rw [HDS.out] at hI4; obtain ⟨x4, y4, -, -⟩ := hI4.at_ hp; have hI4a := hI4.below (below_new w4 (.cells #[ptr p] TPr)))
                | (at_builtin; refine wpList_append_row rfl (.tmp 69) (.tmp 77) 84 rfl TPr ip _ 8 Tryd.underlying84 hip hzp hsp hbp rfl (.slice A' k c') ((ps.take k).map ptr) rfl hI4a.out ⟨w4.heap.size, 0, none⟩ (ptr p) rfl (heap_new_cell _ _ _) rfl HM4 HM5 (by decide) ?_; intro v5 w5 hrow5 hf5 hoth5; obtain ⟨A5, c5, rfl, hc5, hm5⟩ := hrow5.val; have hI5 := hI4a.more hSl hHl hbH hp hf5 hrow5; rw [HTL.out] at hI5 hc5 ⊢; obtain ⟨x5, -, z5, x5f⟩ := hI5.at_ hp))
              have hfin := hI5.finish hS0 hbH hSl hper q2 hlt
              have hte : (((outs ++ [(⟨D2, n, rs, rs.length⟩ : Sg)]) ++ gs.drop (k + 1)).map (fun g : Sg => g.d.ref)).take (k + 1) = (outs ++ [(⟨D2, n, rs, rs.length⟩ : Sg)]).map (fun g : Sg => g.d.ref) := by
                rw [List.map_append, List.take_left' (by rw [List.length_map, List.length_append, HOL.out]; rfl)]
              rw [hte] at hfin
              clear hte
              go_ret
              rw [E.out]
              refine ⟨rfl, ?_, hfin.2⟩
              have hout : restartS per gs (-1) = outs ++ [(⟨D2, n, rs, rs.length⟩ : Sg)] := by
                rw [HR2.out, if_pos (.inr (by omega))]
                exact List.append_nil _
              show IsRlog _ _ _ ⟨per, (restartS per gs (-1)).map (fun g : Sg => g.d.ref), false⟩
              rw [hout]
              exact hfin.1
            · go_wp2_with (first
                | (go_at_call 126; refine hrB.mono ?_; rintro e w1 ⟨rfl, hd1, hf1⟩; have hI1 := hup w1 _ hf1 hd1 hrt; obtain ⟨x1, y1, -, -⟩ := hI1.at_ hp; obtain ⟨Sd1, B3, e3, B4, e4, hr1, -⟩ := hI1.disk hbH hp HS.out; have hal := refAll_B hr1 hrt; rw [HRA.out] at hal)
                | (go_at_call 102; refine hal.mono ?_; rintro e w2 ⟨A3, c3, rfl, ho3, hc3, hm3, hb2⟩; have hpa := parse_B w2 A3 b8 c3 ((Own.of_row' ho3).rd Non) hc3 (by rw [HN8.out]; omega); rw [HP.out] at hpa; unfold ParseDid at hpa; simp only at hpa; rw [HN8.out] at hpa hc3 ⊢)
                | (go_at_call 101; refine hpa.mono ?_; rintro e w3 ⟨R3, cr3, vals3, rfl, -, -, hb3⟩; have hI3 := hI1.below (hb2.trans (hb3.mono hb2.size)); obtain ⟨x3, y3, -, x3f⟩ := hI3.at_ hp; obtain ⟨Sd3, B5, e5, B6, e6, hr3, hup3⟩ := hI3.disk hbH hp HS.out; have hcut := refCut_B hr3 (en : Int); unfold RefDid at hcut; rw [← HCU.out] at hcut)
                | (go_at_call 127; refine hcut.mono ?_; rintro e w4 ⟨rfl, hd4, hf4⟩; have hI4 := hup3 w4 _ hf4 hd4 hct; rw [HDS.out] at hI4; obtain ⟨x4, y4, -, -⟩ := hI4.at_ hp; have hI4a := hI4.below (below_new w4 (.cells #[ptr p] TPr)))
                | (at_builtin; refine wpList_append_row rfl (.tmp 69) (.tmp 77) 84 rfl TPr ip _ 8 Tryd.underlying84 hip hzp hsp hbp rfl (.slice A' k c') ((ps.take k).map ptr) rfl hI4a.out ⟨w4.heap.size, 0, none⟩ (ptr p) rfl (heap_new_cell _ _ _) rfl HM4 HM5 (by decide) ?_; intro v5 w5 hrow5 hf5 hoth5; obtain ⟨A5, c5, rfl, hc5, hm5⟩ := hrow5.val; have hI5 := hI4a.more hSl hHl hbH hp hf5 hrow5; rw [HTL.out] at hI5 hc5 ⊢; obtain ⟨x5, -, z5, x5f⟩ := hI5.at_ hp))
              go_roundw
              case rel =>
                refine ⟨k + 1, A5, c5, outs ++ [(⟨D2, n, rs, rs.length⟩ : Sg)], _, ((n + rs.length : Nat) : Int), rfl, by go_num, by go_num, hlt, hI5, ?_, by rw [List.length_append, HOL.out]; rfl⟩
                rw [HR2.out, if_neg (fun hh => ?_)]
                rcases hh with hh | hh
                · have := of_decide_eq_false hh
                  omega
                · omega
              case measure => simp [intOf]; omega
      · obtain rfl : k = ps.length := by omega
        have hfin := hI.finish hS0 hbH hSl hper q2 (Nat.le_refl _)
        have hfe : ((outs ++ gs.drop ps.length).map (fun g : Sg => g.d.ref)).take ps.length = outs.map (fun g : Sg => g.d.ref) := by
          rw [List.map_append, List.take_left' (by rw [List.length_map]; exact HOL.out)]
        rw [hfe] at hfin
        have hout : restartS per gs (-1) = outs := by
          rw [HRS.out, List.drop_of_length_le (by rw [HQ.out]; exact Nat.le_refl _)]
          exact List.append_nil _
        have HO := Lib.hid hout
        clear hfe hout
        go_wp2
        go_ret
        rw [E.out]
        refine ⟨rfl, ?_, hfin.2⟩
        show IsRlog _ _ _ ⟨per, (restartS per gs (-1)).map (fun g : Sg => g.d.ref), false⟩
        rw [HO.out]
        exact hfin.1
end
end Go.Proofs.YtediidajdpdeiaaDoor

/- SeglogPlays: a call on both logs (layer 7); the walk. -/
namespace Go.Proofs.YtediidajdpdeiaaDoor
open Go.RowKit CrcM
set_option maxRecDepth 100000

theorem xor255_all : ∀ (x : Fin 256), bits .xor .u8 (x.val : Int) 255 = ((UInt8.ofNat x.val ^^^ 255).toNat : Int) := by decide +kernel
theorem xor255 (x : UInt8) : Value.int .u8 (bits .xor .u8 (x.toNat : Int) 255) = byteV (x ^^^ 255) := by
  have := xor255_all ⟨x.toNat, x.toNat_lt⟩
  simp only [UInt8.ofNat_toNat] at this
  rw [this]; rfl
theorem own_bk {w w' : World} {base n : Nat} {v : Value} {xs : List Value} {sz : Nat} (h : w.ownsRow base TB sz v n xs) (k : BK w w') : w'.ownsRow base TB sz v n xs := by
  refine ⟨h.1, ?_⟩
  rcases h.2 with h2 | ⟨g, cap, cur, hv, hg0, hg, hr⟩
  · exact .inl h2
  · exact .inr ⟨g, cap, cur, hv, hg0, (k g ⟨cur, _, hg⟩).trans hg, hr⟩

/-- the block of a row of one's own, or any new one where there is none -/
theorem row_at {w w3 : World} {m c3 : Nat} {A3 : Option Addr} {xs : List Value} (ho : w3.ownsRow (w.heap.size + 1) TB 1 (.slice A3 m c3) m xs) (hl : w.heap.size + 1 ≤ w3.heap.size) : ∃ q, w.heap.size ≤ q ∧ q < w3.heap.size ∧ (m = 0 ∨ A3 = some ⟨q, 0, none⟩) := by
  rcases ho.2 with ⟨_, h0⟩ | ⟨g, cap, cur, hv, hg0, hg, hr⟩
  · exact ⟨w.heap.size, Nat.le_refl _, by omega, .inl h0⟩
  · injection hv with hv
    exact ⟨g, by omega, (Array.getElem?_eq_some_iff.1 hg).1, .inr hv⟩

/-- what a call makes of a log -/
def Lg.act5 (L : Lg) (a : Act07) : Lg := if a.kind = 0 then (L.append (a.b.take 400)).1 else if a.kind = 1 then L.sync.1 else if a.kind = 2 then (L.drop a.n).1 else if a.kind = 3 then (L.crash a.n a.flip).1 else L.restart.1
/-- WHAT does leaves -/
def DoesDid (W : World) (b r : Nat) (L : Lg) (e : Ending) (w' : World) : Prop := e = .returned (.bool true) ∧ BothG W w' b r L L.ref

set_option maxHeartbeats 2000000 in
theorem does_B {W w : World} {b r k : Nat} {L : Lg} (h : BothG W w b r L L.ref) (hh : HalfAt W) (hinv : L.inv k) (hk : k ≤ 1000) (a : Act07) (B : Option Addr) (cb : Nat) (hcb : a.b.length ≤ cb) (hcm : cb ≤ maxLen) (hB : RdB W B a.b) (inn : i64 a.n) (ifl : i64 a.flip) :
    Calls Tryd.prog 51 #[.pointer (some ⟨b, 0, none⟩), .pointer (some ⟨r, 0, none⟩), .agg #[.int .i64 a.kind, .int .i64 a.n, .int .i64 a.flip, .slice B a.b.length cb]] w (DoesDid W b r (L.act5 a)) := by
  obtain ⟨iu, hiu, hzu, hsu, hbu⟩ := info_parts info_u8
  obtain ⟨kd, n, fl, bb⟩ := a
  simp only at hcb hB inn ifl
  unfold i64 at inn ifl
  have hlL := hinv.len_le
  obtain ⟨l, hl⟩ : ∃ l, l = bb.take 400 := ⟨_, rfl⟩
  obtain ⟨m, hm⟩ : ∃ m, l.length = m := ⟨_, rfl⟩
  have l1 : m ≤ bb.length := by rw [← hm, hl, List.length_take]; omega
  have l2 : m ≤ 400 := by rw [← hm, hl, List.length_take]; omega
  have l3 : (m : Int) ≤ (cb : Int) := by omega
  have hr : RdB W B l := hl ▸ hB.take 400
  have hmin : ∀ w, (Builtin.min_ #[3, 3] 3 #[.int .i64 (bb.length : Int), .int .i64 400]).run Tryd.prog w = .ok (.int .i64 (m : Int)) w := by
    intro w
    rw [run_min_int2]
    have : (m : Int) = if (400 : Int) < (bb.length : Int) then 400 else (bb.length : Int) := by rw [← hm, hl, List.length_take]; split <;> omega
    rw [this]
  have hact : Lg.act5 L ⟨kd, n, fl, bb⟩ = if kd = 0 then (L.append l).1 else if kd = 1 then L.sync.1 else if kd = 2 then (L.drop n).1 else if kd = 3 then (L.crash n fl).1 else L.restart.1 := by
    unfold Lg.act5
    rw [hl]
  have HM := Lib.hid hm
  have HA := Lib.hid hact
  have HL := Lib.hid hl
  clear hm hact hl hB
  have hb1 := below_new w (.cells #[.int .i64 kd, .int .i64 n, .int .i64 fl, .slice B bb.length cb] 69)
  have B1 := Blk.new w 69 #[.int .i64 kd, .int .i64 n, .int .i64 fl, .slice B bb.length cb]
  have hlt1 := B1.lt
  have f3 := B1.cell 3 (v := .slice B bb.length cb) rfl
  have B2 := B1.alloc (.cells #[] TB)
  have f3' := B2.cell 3 (v := .slice B bb.length cb) rfl
  have hb2 : Below w.heap.size w ((w.alloc (.cells #[.int .i64 kd, .int .i64 n, .int .i64 fl, .slice B bb.length cb] 69)).alloc (.cells #[] TB)) := hb1.alloc hb1.size _
  have how : ((w.alloc (.cells #[.int .i64 kd, .int .i64 n, .int .i64 fl, .slice B bb.length cb] 69)).alloc (.cells #[] TB)).ownsRow (w.heap.size + 1) TB 1 (.slice (some ⟨w.heap.size + 1, 0, none⟩) 0 0) 0 (([] : List UInt8).map byteV) := by
    have := ownsB_none (w.alloc (.cells #[.int .i64 kd, .int .i64 n, .int .i64 fl, .slice B bb.length cb] 69))
    have e : (w.alloc (.cells #[.int .i64 kd, .int .i64 n, .int .i64 fl, .slice B bb.length cb] 69)).heap.size = w.heap.size + 1 := by simp
    rw [e] at this
    exact this
  have hrr := (hr.arg (h.mono hb2).below) Non (fun _ h => h.elim)
  have e1 : (w.alloc (.cells #[.int .i64 kd, .int .i64 n, .int .i64 fl, .slice B bb.length cb] 69)).heap.size = w.heap.size + 1 := by simp
  have key : ∀ (v3 : Value) (w3 : World), w3.ownsRow (w.heap.size + 1) TB 1 v3 (0 + m) (([] ++ l).map byteV) → ((w.alloc (.cells #[.int .i64 kd, .int .i64 n, .int .i64 fl, .slice B bb.length cb] 69)).alloc (.cells #[] TB)).grownBy w3 (Value.slice (some ⟨w.heap.size + 1, 0, none⟩) 0 0).ownBlock →
      ∃ A3 c3, v3 = .slice A3 m c3 ∧ w3.ownsRow (w.heap.size + 1) TB 1 (.slice A3 m c3) m (l.map byteV) ∧ m ≤ c3 ∧ c3 ≤ maxLen ∧ Below w.heap.size w w3 ∧ w.heap.size + 1 ≤ w3.heap.size ∧ BothG W w3 b r L L.ref ∧
        w3.cell? ⟨w.heap.size, 0, none⟩ = some (.int .i64 kd) ∧ w3.cell? ⟨w.heap.size, 1, none⟩ = some (.int .i64 n) ∧ w3.cell? ⟨w.heap.size, 2, none⟩ = some (.int .i64 fl) := by
    intro v3 w3 ho hg
    rw [Nat.zero_add, List.nil_append] at ho
    obtain ⟨A3, c3, rfl, hc3, hm3⟩ := own_val ho
    have hbb : Below (w.alloc (.cells #[.int .i64 kd, .int .i64 n, .int .i64 fl, .slice B bb.length cb] 69)).heap.size (w.alloc (.cells #[.int .i64 kd, .int .i64 n, .int .i64 fl, .slice B bb.length cb] 69)) w3 :=
      (below_new _ (.cells #[] TB)).grown hg (by simp) (fun j hj => by injection hj with hj; subst hj; rw [e1]; exact Nat.le_refl _)
    have B3 := B1.below' hbb
    have hbw := hb1.trans (hbb.mono hb1.size)
    have hsz := hbb.size
    rw [e1] at hsz
    exact ⟨A3, c3, rfl, ho, hc3, hm3, hbw, hsz, h.mono hbw, B3.cell 0 rfl, B3.cell 1 rfl, B3.cell 2 rfl⟩
  by_cases k0 : kd = 0
  · subst k0
    have E5 := Lib.hid (show Lg.act5 L ⟨0, n, fl, bb⟩ = (L.append l).1 from HA.out)
    clear HA
    go_enter Tryd.func51, Tryd.ntmps51
    go_wp2_with (first
      | (at_builtin; refine wpList_appB rfl (.tmp 13) (.tmp 20) 22 rfl iu Tryd.underlying22 hiu hzu hsu hbu (w.heap.size + 1) _ 0 [] rfl how Non B m cb l rfl HM.out hrr (by omega) (by simp) ?_; intro v3 w3 hown hgrow hat; obtain ⟨A3, c3, rfl, hown3, hc3, hm3, hb3, hl3, h3, g0, g1, g2⟩ := key v3 w3 hown hgrow; clear hown hgrow hat; obtain ⟨q, hq1, hq2, hq3⟩ := row_at hown3 hl3; have hH3 : BothH q W w3 b r L L.ref := h.hold hb3 hq1 hq2; have hO3 : Own Ever w3 A3 l := (Own.of_row hown3 HM.out.symm).mono (fun _ _ => trivial); have hap := hH3.append hh (by omega) A3 l c3 hO3 (by rw [HM.out]; omega); rw [HM.out] at hap)
      | (go_at_call 35; refine hap.mono ?_; rintro e w4 ⟨rfl, h4, k4⟩; have hO4 := hO3.bk k4; have hra := h4.refAppend hinv (by omega) A3 l c3 hO4 (by rw [HM.out]; omega) (by rw [HM.out]; omega) hm3; rw [HM.out] at hra; clear hap)
      | (go_at_call 96; refine hra.mono ?_; rintro e w5 ⟨rfl, h5, k5⟩; have hown5 := own_bk (own_bk hown3 k4) k5; clear hra))
    clear g0 g1 g2
    go_loopw [40] (fun i wr => ∃ (j : Nat) (l' : List UInt8), j ≤ m ∧ i = .int .i64 (j : Int) ∧ l'.length = m ∧ wr.ownsRow (w.heap.size + 1) TB 1 (.slice A3 m c3) m (l'.map byteV) ∧ Mut q w5 wr) (fun i _ => m - (intOf i).toNat)
    case atStart => exact ⟨0, l, Nat.zero_le _, rfl, HM.out, hown5, Mut.refl _ _⟩
    case round =>
      obtain ⟨j, l', hj, rfl, hl', hoj, hmu⟩ := hrel
      have HL' := Lib.hid hl'
      clear hl' hown5
      by_cases hlt : j < m
      · have hlt' : (j : Int) < (m : Int) := by omega
        obtain rfl := hq3.resolve_left (by omega)
        obtain ⟨x, hx⟩ : ∃ x, l'[j]? = some x := ⟨_, List.getElem?_eq_getElem (by rw [HL'.out]; exact hlt)⟩
        have hxc : wr.cell? ⟨q, j, none⟩ = some (.int .u8 (x.toNat : Int)) := by
          rw [hoj.cellAt _ (by omega), List.getElem?_map, hx]; rfl
        have hxf := hoj.frozenAt j
        have hst := (hoj.stored j (byteV (x ^^^ 255))).1
        rw [← List.map_set] at hst
        have EB := Lib.hid (xor255 x)
        have hmu' := hmu.setCell j (byteV (x ^^^ 255))
        have hj0 : (0 : Int) ≤ (j : Int) := by omega
        clear hx
        go_wp2
        rw [EB.out]
        go_roundw
        case rel => exact ⟨j + 1, l'.set j (x ^^^ 255), by omega, by go_num, by rw [List.length_set, HL'.out], hst, hmu'⟩
        case measure => simp [intOf]; omega
      · obtain rfl : j = m := by omega
        have h6 := h5.free hmu
        go_wp2
        go_ret
        rw [E5.out]
        exact ⟨by simp, h6⟩
  have n0 : (kd == 0) = false := by simpa using k0
  by_cases k1 : kd = 1
  · subst k1
    have E5 := Lib.hid (show Lg.act5 L ⟨1, n, fl, bb⟩ = L.sync.1 from HA.out)
    clear HA
    go_enter Tryd.func51, Tryd.ntmps51
    go_wp2_with (first
      | (at_builtin; refine wpList_appB rfl (.tmp 13) (.tmp 20) 22 rfl iu Tryd.underlying22 hiu hzu hsu hbu (w.heap.size + 1) _ 0 [] rfl how Non B m cb l rfl HM.out hrr (by omega) (by simp) ?_; intro v3 w3 hown hgrow hat; obtain ⟨A3, c3, rfl, hown3, hc3, hm3, hb3, hl3, h3, g0, g1, g2⟩ := key v3 w3 hown hgrow; clear hown hgrow hat)
      | (go_at_call 46; refine (h3.seg (fun T hT => sync_G hT)).mono ?_; rintro e w4 ⟨rfl, h4⟩)
      | (go_at_call 97; refine (h4.turn (fun T H A c ps hh => refLogSync_B hh hinv)).mono ?_; rintro e w5 ⟨rfl, h5⟩))
    go_ret
    rw [E5.out]
    exact ⟨by simp, h5⟩
  have n1 : (kd == 1) = false := by simpa using k1
  by_cases k2 : kd = 2
  · subst k2
    have E5 := Lib.hid (show Lg.act5 L ⟨2, n, fl, bb⟩ = (L.drop n).1 from HA.out)
    clear HA
    go_enter Tryd.func51, Tryd.ntmps51
    go_wp2_with (first
      | (at_builtin; refine wpList_appB rfl (.tmp 13) (.tmp 20) 22 rfl iu Tryd.underlying22 hiu hzu hsu hbu (w.heap.size + 1) _ 0 [] rfl how Non B m cb l rfl HM.out hrr (by omega) (by simp) ?_; intro v3 w3 hown hgrow hat; obtain ⟨A3, c3, rfl, hown3, hc3, hm3, hb3, hl3, h3, g0, g1, g2⟩ := key v3 w3 hown hgrow; clear hown hgrow hat))
    refine wp_region_T #[[], [], [], [2], [], [], [], [2, 6], [2, 6], [2, 6]] [2, 6] (fun w' => w'.cell? ⟨w.heap.size, 1, none⟩ = some (.int .i64 n) ∧ True) 10 rfl (by kernel_rfl) ?_
    (refine wpAnyT_free (i := 0) rfl (by kernel_rfl) rfl (fun _ _ _ h => h) (by kernel_rfl) (fun _ => by go_simp; try rfl) ?_; (try simp only [Act.put, List.setIfInBounds_toArray, List.set_cons_zero, List.set_cons_succ]))
    (refine wpAnyT_free (i := 1) rfl (by kernel_rfl) rfl (fun _ _ _ h => h) (by kernel_rfl) (fun _ => by go_simp; try rfl) ?_; (try simp only [Act.put, List.setIfInBounds_toArray, List.set_cons_zero, List.set_cons_succ]))
    (refine wpAnyT_read (i := 2) rfl (by kernel_rfl) rfl (fun _ _ _ h => h) (by kernel_rfl) (⟨g1, trivial⟩) (fun w hS_ => by obtain ⟨s_1, s_2⟩ := hS_; go_simp; try rfl) ?_; (try simp only [Act.put, List.setIfInBounds_toArray, List.set_cons_zero, List.set_cons_succ]))
    (refine wpAnyT_free (i := 4) rfl (by kernel_rfl) rfl (fun _ _ _ h => h) (by kernel_rfl) (fun _ => by go_simp; try rfl) ?_; (try simp only [Act.put, List.setIfInBounds_toArray, List.set_cons_zero, List.set_cons_succ]))
    (refine wpAnyT_free (i := 5) rfl (by kernel_rfl) rfl (fun _ _ _ h => h) (by kernel_rfl) (fun _ => by go_simp; try rfl) ?_; (try simp only [Act.put, List.setIfInBounds_toArray, List.set_cons_zero, List.set_cons_succ]))
    (refine wpAnyT_read (i := 6) rfl (by kernel_rfl) rfl (fun _ _ _ h => h) (by kernel_rfl) (⟨g1, trivial⟩) (fun w hS_ => by obtain ⟨s_1, s_2⟩ := hS_; go_simp; try rfl) ?_; (try simp only [Act.put, List.setIfInBounds_toArray, List.set_cons_zero, List.set_cons_succ]))
    refine wpAnyT_one (i := 3) rfl (by kernel_rfl) rfl ?_
    intro K_ hK_
    go_wp2_with ((go_at_call 47; refine (h.segK hb3.drew (fun T hT => drop_G hT n)).mono ?_; rintro e w4 ⟨rfl, h4, q4⟩))
    refine hK_ _ _ ?_ ?_
    · exact fun _ _ => ⟨(cell_eq (a := ⟨w.heap.size, 1, none⟩) (q4 w.heap.size (Nat.le_refl _) hl3)).trans g1, trivial⟩
    clear hK_ K_
    (try simp only [Act.put, List.setIfInBounds_toArray, List.set_cons_zero, List.set_cons_succ])
    refine wpAnyT_sink (i := 7) rfl (by kernel_rfl) rfl (by kernel_rfl) ?_
    intro K_ hK_
    go_wp2_with ((go_at_call 98; refine (h4.turn (fun T H A c ps hh => refLogDrop_B hh hinv (by omega) n)).mono ?_; rintro e w5 ⟨rfl, h5⟩))
    (try (refine hK_ _ _ ?_; clear hK_ K_))
    (try simp only [Act.put, List.setIfInBounds_toArray, List.set_cons_zero, List.set_cons_succ])
    (refine wpAnyT_free (i := 8) rfl (by kernel_rfl) rfl (fun _ _ _ h => h) (by kernel_rfl) (fun _ => by go_simp; try rfl) ?_; (try simp only [Act.put, List.setIfInBounds_toArray, List.set_cons_zero, List.set_cons_succ]))
    (refine wpAnyT_free (i := 9) rfl (by kernel_rfl) rfl (fun _ _ _ h => h) (by kernel_rfl) (fun _ => by go_simp; try rfl) ?_; (try simp only [Act.put, List.setIfInBounds_toArray, List.set_cons_zero, List.set_cons_succ]))
    refine wpAnyT_done (by kernel_rfl) ?_ _
    go_wp2
    go_ret
    rw [E5.out]
    exact ⟨by simp, h5⟩
  have n2 : (kd == 2) = false := by simpa using k2
  by_cases k3 : kd = 3
  · subst k3
    have E5 := Lib.hid (show Lg.act5 L ⟨3, n, fl, bb⟩ = (L.crash n fl).1 from HA.out)
    clear HA
    go_enter Tryd.func51, Tryd.ntmps51
    go_wp2_with (first
      | (at_builtin; refine wpList_appB rfl (.tmp 13) (.tmp 20) 22 rfl iu Tryd.underlying22 hiu hzu hsu hbu (w.heap.size + 1) _ 0 [] rfl how Non B m cb l rfl HM.out hrr (by omega) (by simp) ?_; intro v3 w3 hown hgrow hat; obtain ⟨A3, c3, rfl, hown3, hc3, hm3, hb3, hl3, h3, g0, g1, g2⟩ := key v3 w3 hown hgrow; clear hown hgrow hat))
    refine wp_region_T #[[], [], [], [], [], [2, 4], [], [], [], [], [], [2, 4, 8, 10], [2, 4, 8, 10], [2, 4, 8, 10]] [2, 4, 8, 10] (fun w' => w'.cell? ⟨w.heap.size, 1, none⟩ = some (.int .i64 n) ∧ w'.cell? ⟨w.heap.size, 2, none⟩ = some (.int .i64 fl)) 14 rfl (by kernel_rfl) ?_
    (refine wpAnyT_free (i := 0) rfl (by kernel_rfl) rfl (fun _ _ _ h => h) (by kernel_rfl) (fun _ => by go_simp; try rfl) ?_; (try simp only [Act.put, List.setIfInBounds_toArray, List.set_cons_zero, List.set_cons_succ]))
    (refine wpAnyT_free (i := 1) rfl (by kernel_rfl) rfl (fun _ _ _ h => h) (by kernel_rfl) (fun _ => by go_simp; try rfl) ?_; (try simp only [Act.put, List.setIfInBounds_toArray, List.set_cons_zero, List.set_cons_succ]))
    (refine wpAnyT_read (i := 2) rfl (by kernel_rfl) rfl (fun _ _ _ h => h) (by kernel_rfl) (⟨g1, g2⟩) (fun w hS_ => by obtain ⟨s_1, s_2⟩ := hS_; go_simp; try rfl) ?_; (try simp only [Act.put, List.setIfInBounds_toArray, List.set_cons_zero, List.set_cons_succ]))
    (refine wpAnyT_free (i := 3) rfl (by kernel_rfl) rfl (fun _ _ _ h => h) (by kernel_rfl) (fun _ => by go_simp; try rfl) ?_; (try simp only [Act.put, List.setIfInBounds_toArray, List.set_cons_zero, List.set_cons_succ]))
    (refine wpAnyT_read (i := 4) rfl (by kernel_rfl) rfl (fun _ _ _ h => h) (by kernel_rfl) (⟨g1, g2⟩) (fun w hS_ => by obtain ⟨s_1, s_2⟩ := hS_; go_simp; try rfl) ?_; (try simp only [Act.put, List.setIfInBounds_toArray, List.set_cons_zero, List.set_cons_succ]))
    (refine wpAnyT_free (i := 6) rfl (by kernel_rfl) rfl (fun _ _ _ h => h) (by kernel_rfl) (fun _ => by go_simp; try rfl) ?_; (try simp only [Act.put, List.setIfInBounds_toArray, List.set_cons_zero, List.set_cons_succ]))
    (refine wpAnyT_free (i := 7) rfl (by kernel_rfl) rfl (fun _ _ _ h => h) (by kernel_rfl) (fun _ => by go_simp; try rfl) ?_; (try simp only [Act.put, List.setIfInBounds_toArray, List.set_cons_zero, List.set_cons_succ]))
    (refine wpAnyT_read (i := 8) rfl (by kernel_rfl) rfl (fun _ _ _ h => h) (by kernel_rfl) (⟨g1, g2⟩) (fun w hS_ => by obtain ⟨s_1, s_2⟩ := hS_; go_simp; try rfl) ?_; (try simp only [Act.put, List.setIfInBounds_toArray, List.set_cons_zero, List.set_cons_succ]))
    (refine wpAnyT_free (i := 9) rfl (by kernel_rfl) rfl (fun _ _ _ h => h) (by kernel_rfl) (fun _ => by go_simp; try rfl) ?_; (try simp only [Act.put, List.setIfInBounds_toArray, List.set_cons_zero, List.set_cons_succ]))
    (refine wpAnyT_read (i := 10) rfl (by kernel_rfl) rfl (fun _ _ _ h => h) (by kernel_rfl) (⟨g1, g2⟩) (fun w hS_ => by obtain ⟨s_1, s_2⟩ := hS_; go_simp; try rfl) ?_; (try simp only [Act.put, List.setIfInBounds_toArray, List.set_cons_zero, List.set_cons_succ]))
    refine wpAnyT_one (i := 5) rfl (by kernel_rfl) rfl ?_
    intro K_ hK_
    go_wp2_with ((go_at_call 43; refine (h.segK hb3.drew (fun T hT => crash_G hT n fl inn.2 ifl.2 inn.1 ifl.1)).mono ?_; rintro e w4 ⟨rfl, h4, q4⟩))
    refine hK_ _ _ ?_ ?_
    · exact fun _ _ => ⟨(cell_eq (a := ⟨w.heap.size, 1, none⟩) (q4 w.heap.size (Nat.le_refl _) hl3)).trans g1, (cell_eq (a := ⟨w.heap.size, 2, none⟩) (q4 w.heap.size (Nat.le_refl _) hl3)).trans g2⟩
    clear hK_ K_
    (try simp only [Act.put, List.setIfInBounds_toArray, List.set_cons_zero, List.set_cons_succ])
    refine wpAnyT_sink (i := 11) rfl (by kernel_rfl) rfl (by kernel_rfl) ?_
    intro K_ hK_
    go_wp2_with ((go_at_call 99; refine (h4.turn (fun T H A c ps hh => refLogCrash_B hh hinv n fl inn.2 ifl.2 inn.1 ifl.1)).mono ?_; rintro e w5 ⟨rfl, h5⟩))
    (try (refine hK_ _ _ ?_; clear hK_ K_))
    (try simp only [Act.put, List.setIfInBounds_toArray, List.set_cons_zero, List.set_cons_succ])
    (refine wpAnyT_free (i := 12) rfl (by kernel_rfl) rfl (fun _ _ _ h => h) (by kernel_rfl) (fun _ => by go_simp; try rfl) ?_; (try simp only [Act.put, List.setIfInBounds_toArray, List.set_cons_zero, List.set_cons_succ]))
    (refine wpAnyT_free (i := 13) rfl (by kernel_rfl) rfl (fun _ _ _ h => h) (by kernel_rfl) (fun _ => by go_simp; try rfl) ?_; (try simp only [Act.put, List.setIfInBounds_toArray, List.set_cons_zero, List.set_cons_succ]))
    refine wpAnyT_done (by kernel_rfl) ?_ _
    go_wp2
    go_ret
    rw [E5.out]
    exact ⟨by simp, h5⟩
  have n3 : (kd == 3) = false := by simpa using k3
  have E5 := Lib.hid (show Lg.act5 L ⟨kd, n, fl, bb⟩ = L.restart.1 from by rw [HA.out, if_neg k0, if_neg k1, if_neg k2, if_neg k3])
  clear HA
  go_enter Tryd.func51, Tryd.ntmps51
  go_wp2_with (first
    | (at_builtin; refine wpList_appB rfl (.tmp 13) (.tmp 20) 22 rfl iu Tryd.underlying22 hiu hzu hsu hbu (w.heap.size + 1) _ 0 [] rfl how Non B m cb l rfl HM.out hrr (by omega) (by simp) ?_; intro v3 w3 hown hgrow hat; obtain ⟨A3, c3, rfl, hown3, hc3, hm3, hb3, hl3, h3, g0, g1, g2⟩ := key v3 w3 hown hgrow; clear hown hgrow hat)
    | (go_at_call 44; refine (h3.seg (fun T hT => restart_G hT hh)).mono ?_; rintro e w4 ⟨rfl, h4⟩)
    | (go_at_call 100; refine (h4.turn (fun T H A c ps hh => refLogRestart_B hh hinv)).mono ?_; rintro e w5 ⟨rfl, h5⟩))
  go_ret
  rw [E5.out]
  exact ⟨by simp, h5⟩
end Go.Proofs.YtediidajdpdeiaaDoor

/- The document's log (layer 7): New; the walk. -/
namespace Go.Proofs.YtediidajdpdeiaaDoor
open Go.RowKit CrcM
set_option maxRecDepth 100000

/-- WHAT New leaves -/
def RnewDid (w : World) (per : Int) (e : Ending) (w' : World) : Prop := ∃ r A c ps H, e = .returned (.tuple #[.pointer (some ⟨r, 0, none⟩), .int .i64 0]) ∧ RlogO (Nw w w') H w' r A c ps (Lg.new per.toNat).ref ∧ Below w.heap.size w w'
theorem refLogNew_B (w : World) (per : Int) : Calls Tryd.prog 50 #[.int .i64 per] w fun e w' =>
    if 1 ≤ per ∧ per ≤ 1024 then RnewDid w per e w' else e = .returned (.tuple #[.pointer none, .int .i64 2]) ∧ w' = w := by
  by_cases h : 1 ≤ per ∧ per ≤ 1024
  · simp only [if_pos h]
    obtain ⟨n, rfl⟩ : ∃ n : Nat, per = n := ⟨per.toNat, by omega⟩
    have h1 : ¬ (n : Int) < 1 := by omega
    have h2 : ¬ (1024 : Int) < (n : Int) := by omega
    go_enter Tryd.func50, Tryd.ntmps50
    go_wp2
    go_ret2
    refine ⟨w.heap.size, none, 0, [], Nw w (w.alloc (.cells #[.int .i64 (n : Int), .slice none 0 0, .bool false] TRl)), rfl, ⟨fun _ h => h, ⟨Nat.le_refl _, by simp⟩, Blk.new _ _ _, Row.nil _ _ _, Refs.nil _ _ _, fun x hx => hx.2, ?_, by simp [Lg.ref, Lg.new], fun g hg => by simp [Lg.ref, Lg.new] at hg⟩, (Below.refl _ _).alloc (Nat.le_refl _) _⟩
    show 1 ≤ ((n : Int)).toNat ∧ ((n : Int)).toNat ≤ 1024
    omega
  · simp only [if_neg h]
    by_cases h1 : per < 1
    · go_enter Tryd.func50, Tryd.ntmps50
      go_wp2
      go_ret2
      exact ⟨rfl, rfl⟩
    · have h2 : (1024 : Int) < per := by omega
      go_enter Tryd.func50, Tryd.ntmps50
      go_wp2
      go_ret2
      exact ⟨rfl, rfl⟩
end Go.Proofs.YtediidajdpdeiaaDoor

/- SeglogPlays: what the law asks of both logs (layer 7). -/
namespace Go.Proofs.YtediidajdpdeiaaDoor
open Go.RowKit CrcM
set_option maxRecDepth 100000

section
variable {W w w' : World} {b r k : Nat} {L : Lg} {R : Rg}
theorem BothG.make {w1 : World} {A : Option Addr} {c : Nat} {ps : List Nat} {H : Nat → Prop} (h1 : LogAt (Nw w w1) w1 b L) (hw : Below W.heap.size W w) (hb1 : Below w.heap.size w w1) (hb2 : Below w1.heap.size w1 w') (h2 : RlogO (Nw w1 w') H w' r A c ps R) : BothG W w' b r L R :=
  ⟨Nw w1 w', H, A, c, ps, ⟨Nw w w1, h1.below hb2, fun x hx => Nat.le_trans hw.size hx.1, hw.trans ((hb1.trans (hb2.mono hb1.size)).mono hw.size), fun x hx => ⟨fun hs => by have := hs.2; have := hx.1; omega, hx.2⟩⟩, h2, fun x hx => Nat.le_trans (Nat.le_trans hw.size hb1.size) hx.1⟩
/-- WHAT all leaves -/
def BothAll (W w : World) (b r : Nat) (L : Lg) (R : Rg) (e : Ending) (w' : World) : Prop := ∃ A c X, e = .returned (.tuple #[.slice A L.recs.length c, .bool true]) ∧ Held X w' A c L.recs ∧ BothG W w' b r L R ∧ Below w.heap.size w w'
theorem BothG.all (h : BothG W w b r L R) (hinv : L.inv k) (hk : k ≤ 1048576) : Calls Tryd.prog 40 #[.pointer (some ⟨b, 0, none⟩)] w (BothAll W w b r L R) := by
  have h' := h
  obtain ⟨T, H, A, c, ps, h1, h2, h3⟩ := h
  exact (all_H h1 hinv hk).mono fun e w' ⟨A, c, q1, q2, q3, q4⟩ => ⟨A, c, _, q1, q2, h'.mono q4, q4⟩
/-- WHAT the document's Records leaves -/
def BothRecs (W w : World) (b r : Nat) (L : Lg) (R : Rg) (e : Ending) (w' : World) : Prop := ∃ A c X, e = .returned (.slice A L.recs.length c) ∧ Held X w' A c L.recs ∧ BothG W w' b r L R ∧ Below w.heap.size w w'
theorem BothG.records (h : BothG W w b r L L.ref) (hinv : L.inv k) (hk : k ≤ 1048576) : Calls Tryd.prog 52 #[.pointer (some ⟨r, 0, none⟩)] w (BothRecs W w b r L L.ref) := by
  have h' := h
  obtain ⟨T, H, A, c, ps, h1, h2, h3⟩ := h
  refine (refRecords_B h2 hinv hk).mono ?_
  rintro e w' ⟨R', cr, vals, rfl, q1, q2, q3⟩
  exact ⟨R', cr, _, rfl, ⟨vals, q1, q2⟩, h'.mono q3, q3⟩
theorem BothG.drewB (h : BothG W w b r L R) : BothG W w.drew b r L R := h.mono (Below.refl _ _).drew
theorem BothG.down (h : BothG W w b r L R) : Calls Tryd.prog 48 #[.pointer (some ⟨b, 0, none⟩)] w fun e w' => e = .returned (.bool L.down) ∧ w = w' := by
  obtain ⟨T, H, A, c, ps, h1, h2, h3⟩ := h
  exact down_G h1
theorem alike_same {Xa Xb : Nat → Prop} {A B : Option Addr} {c cb : Nat} {recs : List (List UInt8)} (ha : Held Xa w A c recs) (hb : Held Xb w B cb recs) :
    Calls Tryd.prog 45 #[.slice A recs.length c, .slice B recs.length cb] w fun e w' => e = .returned (.bool true) ∧ Below w.heap.size w w' := by
  refine (alike_H ha hb).mono ?_
  rintro e w' ⟨h1, h2⟩
  exact ⟨by rw [h1]; simp, h2⟩
/-- what the law reads of the document's log -/
theorem BothG.cells (h : BothG W w b r L L.ref) : ∃ (A : Option Addr) (c : Nat) (ps : List Nat), w.cell? ⟨r, 1, none⟩ = some (.slice A ps.length c) ∧ w.cell? ⟨r, 2, none⟩ = some (.bool L.down) ∧ ps.length = L.segs.length ∧ ps.length ≤ 256 ∧ ps.length ≤ c ∧ c ≤ 9223372036854775807 ∧
    ∀ (j : Nat) (g : Sg), L.segs[j]? = some g → ∃ (p ga oa : Nat) (A1 : Option Addr) (c1 : Nat) (A2 : Option Addr) (c2 : Nat), A = some ⟨ga, oa, none⟩ ∧ w.cell? ⟨ga, oa + j, none⟩ = some (.pointer (some ⟨p, 0, none⟩)) ∧
      w.cell? ⟨p, 0, none⟩ = some (.slice A1 g.d.ref.kept.length c1) ∧ w.cell? ⟨p, 1, none⟩ = some (.slice A2 g.d.ref.rest.length c2) ∧ Own Ever w A1 g.d.ref.kept ∧ g.d.ref.kept.length + g.d.ref.rest.length = g.d.all.length ∧ g.d.all.length ≤ 4194304 := by
  obtain ⟨T, H, A, c, ps, h1, h2, h3⟩ := h
  obtain ⟨c0, c1, c2, z1, z2, q1, q2, q3, q4⟩ := h2.facts
  refine ⟨A, c, ps, c1, c2, by rw [q1]; simp, q2, q3, q4, fun j g hg => ?_⟩
  have hlt := (List.getElem?_eq_some_iff.1 hg).1
  have hpl : ps.length = L.segs.length := by rw [q1]; simp
  obtain ⟨p, hp⟩ : ∃ p, ps[j]? = some p := ⟨_, List.getElem?_eq_getElem (by omega)⟩
  have hR : (L.segs.map (fun g => g.d.ref))[j]? = some g.d.ref := by rw [List.getElem?_map, hg]; rfl
  obtain ⟨ga, oa, hA, ca⟩ := h2.ptrAt hp
  obtain ⟨Sd, A1, e1, A2, e2, hr, -, -⟩ := h2.disk hp hR
  have hs := h2.small g.d.ref (List.mem_of_getElem? hR)
  obtain ⟨d0, d1, d2, -⟩ := RefAt.facts (kept := g.d.ref.kept) (rest := g.d.ref.rest) (dn := g.d.ref.down) hr
  exact ⟨p, ga, oa, A1, e1, A2, e2, hA, ca, d0, d1, hr.own1.mono (fun _ _ => trivial), ref_total g.d, by rw [← ref_total]; exact hs⟩
/-- WHAT Segments leaves -/
def BothSegs (W w : World) (b r : Nat) (L : Lg) (R : Rg) (e : Ending) (w' : World) : Prop := ∃ A c vals Ro, e = .returned (.slice A L.segs.length c) ∧ Row Ro w' TPd (.slice A vals.length c) vals ∧ vals.length = L.segs.length ∧ DisksAt w.heap.size Ro w' vals L.segs ∧ BothG W w' b r L R ∧ Below w.heap.size w w'
theorem BothG.segments (h : BothG W w b r L R) : Calls Tryd.prog 36 #[.pointer (some ⟨b, 0, none⟩)] w (BothSegs W w b r L R) := by
  have h' := h
  obtain ⟨T, H, A, c, ps, ⟨S, ⟨hu, H1, A1, c1, ps1, hl⟩, hS, hb, hX⟩, h2, h3⟩ := h
  refine (segmentsL hl).mono ?_
  rintro e w' ⟨v, vals, Ro, rfl, hr, hd, hb'⟩
  obtain ⟨A', c', rfl, hc', hm'⟩ := hr.val
  exact ⟨A', c', vals, Ro, by rw [hd.1], hr, hd.1, hd, h'.mono hb', hb'⟩
/-- any call leaves the law of a log -/
theorem Lg.inv.act5 (h : L.inv k) (hk : k < 4611686018427387904) (a : Act07) : (L.act5 a).inv (k + 1) := by
  obtain ⟨i0, i1, i2, i3, i4⟩ := h.calls hk
  unfold Lg.act5
  split
  · exact i0 _ (by rw [List.length_take]; omega)
  · split
    · exact i1
    · split
      · exact i2 _
      · split
        · exact i3 _ _
        · exact i4
end
end Go.Proofs.YtediidajdpdeiaaDoor

/- SeglogPrefix: the law's walk. -/
namespace Go.Proofs.YtediidajdpdeiaaDoor
open Go.RowKit CrcM
set_option maxRecDepth 100000

theorem RdB.below {W W' : World} {A : Option Addr} {l : List UInt8} (h : RdB W A l) (hb : Below W.heap.size W W') : RdB W' A l := fun j x hx => by
  obtain ⟨ad, e, hlt, hc⟩ := h j x hx
  exact ⟨ad, e, Nat.lt_of_lt_of_le hlt hb.size, (hb.cell (p := ad.add j) (by rw [add_block]; exact hlt)).trans hc⟩
theorem ActsAt.below {W W' : World} {A : Option Addr} {acts : List Act07} (h : ActsAt W A acts) (hb : Below W.heap.size W W') : ActsAt W' A acts := fun j a ha => by
  obtain ⟨g, o, B, c, e, hg, e0, e1, e2, e3, h1, h2, h3, h4⟩ := h j a ha
  exact ⟨g, o, B, c, e, Nat.lt_of_lt_of_le hg hb.size, (hb.cell (p := ⟨g, o + j * 4, none⟩) hg).trans e0, (hb.cell (p := ⟨g, o + j * 4 + 1, none⟩) hg).trans e1, (hb.cell (p := ⟨g, o + j * 4 + 2, none⟩) hg).trans e2, (hb.cell (p := ⟨g, o + j * 4 + 3, none⟩) hg).trans e3, h1, h2, h3.below hb, h4⟩

set_option maxHeartbeats 1000000 in
theorem prefixLaw_07 (W : World) (hh : HalfAt W) (per : Int) (A : Option Addr) (acts : List Act07) (c : Nat) (hA : ActsAt W A acts) (hlen : acts.length ≤ maxLen) (x y : Int) (_hx : i64 x) (hy : i64 y) :
    Calls Tryd.prog 11 #[.int .i64 per, .slice A acts.length c, .agg #[.int .i64 x, .int .i64 y]] W fun e w' => e = .returned (.bool true) ∧ Below W.heap.size W w' := by
  unfold i64 at hy
  obtain ⟨kk, hp1, hp2, hp3⟩ := rem_up x 60 (by decide)
  have hpr := rem_any x 60 (by decide)
  have wz1 : IntKind.i64.wrap (x.tmod 60) = x.tmod 60 := by rw [IntKind.wrap_i64]; omega
  have wz2 : IntKind.i64.wrap (x.tmod 60 + 60) = x.tmod 60 + 60 := by rw [IntKind.wrap_i64]; omega
  have wz3 : IntKind.i64.wrap (kk : Int) = (kk : Int) := by rw [IntKind.wrap_i64]; omega
  have hbW := below_new W (.cells #[.int .i64 x, .int .i64 y] 62)
  have hblk := Blk.new W 62 #[.int .i64 x, .int .i64 y]
  have hP := plays_07 (W.alloc (.cells #[.int .i64 x, .int .i64 y] 62)) (hh.below hbW hh.lt) per A acts c (hA.below hbW) hlen
  have hh1 : HalfAt (W.alloc (.cells #[.int .i64 x, .int .i64 y] 62)) := hh.below hbW hh.lt
  go_enter Tryd.func11, Tryd.ntmps11
  clear hA
  go_wp2_with (first
    | (go_at_call 42; refine hP.mono ?_; rintro e w1 ⟨b, L, rfl, h1, hinv, hd⟩; have hA1 := all_H h1 hinv (by decide); clear hP)
    | (go_at_call 40; refine hA1.mono ?_; rintro e w2 ⟨A1, c1, rfl, hw, h2, hb2⟩; have hB2 := base_G h2; clear hA1)
    | (go_at_call 39; refine hB2.mono ?_; rintro e w3 ⟨rfl, h3, hb3⟩; have hS3 := safe_G h3; have hw3 := hw.below hb3; clear hB2 hw)
    | (go_at_call 38; refine hS3.mono ?_; rintro e w4 ⟨rfl, h4, hb4⟩; have hw4 := hw3.below hb4; have a0 := (h4.below.cell (p := ⟨W.heap.size, 0, none⟩) hblk.lt).trans (hblk.cell 0 (v := .int .i64 x) rfl); have a1 := (h4.below.cell (p := ⟨W.heap.size, 1, none⟩) hblk.lt).trans (hblk.cell 1 (v := .int .i64 y) rfl); clear hS3 hw3; obtain ⟨L1, L2, e1, e2, hu, f⟩ := hinv.fall hd (by decide) (kk : Int) y (by omega); have hC := crash_G h4 (kk : Int) y (by omega) hy.2 (by omega) hy.1; unfold LiveGDid at hC; rw [e1] at hC; have HF := Lib.hid f; have HE2 := Lib.hid e2; clear e1 e2 f)
    | (go_at_call 43; refine hC.mono ?_; rintro e w5 ⟨rfl, h5, hx5, hk5⟩; have hR := restart_G h5 hh1; unfold LiveGDid at hR; rw [HE2.out] at hR; have hw5 := hw4.xk hx5 hk5; clear hC)
    | (go_at_call 44; refine hR.mono ?_; rintro e w6 ⟨rfl, h6, hx6, hk6⟩; have hA6 := all_H h6 HF.out.inv (by decide); have hw6 := hw5.xk hx6 hk6; clear hR)
    | (go_at_call 40; refine hA6.mono ?_; rintro e w7 ⟨A2, c2, rfl, hn, h7, hb7⟩; have hw7 := hw6.below hb7; clear hA6 hw6; have hle := HF.out.recs.length_le; have hcap := hw7.cap; have g1 : (L2.recs.length : Int) ≤ (c1 : Int) := by omega
       have g2 : ¬ (L.recs.length : Int) < (L2.recs.length : Int) := by omega
       have hK := alike_take hn hw7 L2.recs.length hle
       have hdec : decide (L2.recs = L.recs.take L2.recs.length) = true := decide_eq_true (List.prefix_iff_eq_take.1 HF.out.recs)
       rw [hdec] at hK
       clear hdec hle hcap))
  refine hK.mono ?_
  rintro e w8 ⟨rfl, hb8⟩
  have h8 := h7.mono' hb8
  clear hK
  have hB8 := base_G h8
  have hS8 := safe_G h8
  rw [HF.out.safe] at hS8
  have hlenr := hinv.len hd
  have hlen60 := hinv.len_le
  have hse := hinv.safe_eq hd
  have hkept := HF.out.kept
  have wz5 : IntKind.i64.wrap ((L.safe : Int) - (L.base : Int)) = (safeLen L.segs : Int) := by rw [IntKind.wrap_i64]; omega
  have g5 : (safeLen L.segs : Int) ≤ (L2.recs.length : Int) := by omega
  have hle := HF.out.recs.length_le
  by_cases hz : L2.recs.length = 0
  · have g6 : ¬ 0 < (L2.recs.length : Int) := by omega
    have HZ := Lib.hid hz
    clear hlenr hlen60 hse hkept wz1 wz2 wz3 hp1 hp2 hp3 hpr hy a0 a1 hz hle hB8
    go_wp2_with (first
      | (go_at_call 38; refine hS8.mono ?_; rintro e w9 ⟨rfl, h9, -⟩; have hL9 := len_G h9; clear hS8)
      | (go_at_call 37; refine hL9.mono ?_; rintro e w10 ⟨rfl, h10, -⟩; have hWk := works_07 _ _ h10.below hh1; clear hL9)
      | (go_at_call 41; refine hWk.mono ?_; rintro e w11 ⟨rfl, hb11⟩; clear hWk))
    all_goals
      go_ret
      exact ⟨rfl, hbW.trans (hb11.mono hbW.size)⟩
  · have g6 : 0 < (L2.recs.length : Int) := by omega
    have g7 : 0 < (L.recs.length : Int) := by omega
    have hbe : L2.base = L.base := HF.out.base (by rintro e; rw [e] at hz; exact hz rfl)
    rw [hbe] at hB8
    clear hlenr hlen60 hse hkept wz1 wz2 wz3 hp1 hp2 hp3 hpr hy a0 a1 hz hle hbe hS8
    go_wp2_with (first
      | (go_at_call 39; refine hB8.mono ?_; rintro e w12 ⟨rfl, h12, -⟩; have hS12 := safe_G h12; rw [HF.out.safe] at hS12; clear hB8)
      | (go_at_call 38; refine hS12.mono ?_; rintro e w9 ⟨rfl, h9, -⟩; have hL9 := len_G h9; clear hS12)
      | (go_at_call 37; refine hL9.mono ?_; rintro e w10 ⟨rfl, h10, -⟩; have hWk := works_07 _ _ h10.below hh1; clear hL9)
      | (go_at_call 41; refine hWk.mono ?_; rintro e w11 ⟨rfl, hb11⟩; clear hWk))
    go_ret
    exact ⟨rfl, hbW.trans (hb11.mono hbW.size)⟩
end Go.Proofs.YtediidajdpdeiaaDoor
