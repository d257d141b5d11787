/- Part of a proof over a Go program: Beg, Lpt. No condition. -/
import Derived.Test.YtoepoghmeajocaaGreatDoorQ19
import Derived.Test.YtoepoghmeajocaaGreatDoorQ16
import Derived.Test.YtoepoghmeajocaaGreatDoorQ17
set_option linter.unnecessarySimpa false
set_option linter.unusedSectionVars false
set_option linter.unusedSimpArgs false
set_option linter.unusedVariables false
set_option maxHeartbeats 4000000
set_option maxRecDepth 1000000
namespace Go.Proofs.YtoepoghmeajocaaGreatDoor.Vc
open Go.RowKit
def Tbl.del (zs : List Nat) : Tbl → Tbl
 | [] => []
 | e :: t => if zs.contains e.1 then Tbl.del zs t else e :: Tbl.del zs t
theorem Tbl.del_get {zs : List Nat} {t : Tbl} {f : Nat} (hf : zs.contains f = false) : (Tbl.del zs t).get f = t.get f := by
 induction t with
 | nil => rfl
 | cons e t ih =>
  obtain ⟨k, F⟩ := e
  simp only [Tbl.del]
  split
  ·rename_i h
   simp only [Tbl.get]
   split
   ·rename_i hk
    have := Nat.eq_of_beq_eq_true hk
    subst this
    rw [hf] at h; cases h
   ·exact ih
  ·simp only [Tbl.get]
   split
   ·rfl
   ·exact ih
theorem Tbl.del_none {zs : List Nat} {t : Tbl} {f : Nat} (hf : zs.contains f = true) : (Tbl.del zs t).get f = none := by
 induction t with
 | nil => rfl
 | cons e t ih =>
  obtain ⟨k, F⟩ := e
  simp only [Tbl.del]
  split
  ·exact ih
  ·rename_i h
   simp only [Tbl.get]
   split
   ·rename_i hk
    have := Nat.eq_of_beq_eq_true hk
    subst this
    exact absurd hf h
   ·exact ih
theorem TblOK.del {P : Program} {t : Tbl} (h : TblOK P t) (zs : List Nat) : TblOK P (Tbl.del zs t) := by
 refine ⟨fun f F hf => ?_⟩
 cases hc : zs.contains f with
 | true => rw [Tbl.del_none hc] at hf; cases hf
 | false => rw [Tbl.del_get hc] at hf; exact h.all f F hf
def extQ (zs : List Nat) (f : FuncId) (args : List PV) : Option DV :=
 match args with
 | [] => if zs.contains f then some (.p (.bool true)) else extP f args
 | _ => extP f args
theorem extQ_ok {zs : List Nat} (h : ∀ z, z ∈ zs → PureCall Tryz.prog z [] (.p (.bool true))) (f : FuncId) (args : List PV) (d : DV) (hd : extQ zs f args = some d) : PureCall Tryz.prog f args d := by
 unfold extQ at hd
 split at hd
 ·split at hd
  ·rename_i hc
   injection hd with hd
   subst hd
   exact h f (by simpa using hc)
  ·exact extP_ok _ _ _ hd
 ·exact extP_ok _ _ _ hd
def envQ (zs : List Nat) (n : Nat) : Env := runE (extQ zs) noO (Tbl.del zs tblP) n
theorem envQ_ok {zs : List Nat} (h : ∀ z, z ∈ zs → PureCall Tryz.prog z [] (.p (.bool true))) (n : Nat) : (envQ zs n).OK Tryz.prog := runE_ok (extQ_ok h) noO_ok (tblP_ok.del zs)
theorem begun144 : PureCall Tryz.prog 180 [] (.p (.bool true)) := (envP_ok 60).call 180 [] (.p (.bool true)) (by kernel_rfl)
theorem begun124 : PureCall Tryz.prog 164 [] (.p (.bool true)) := (envQ_ok (zs := [180]) (fun z hz => by simp at hz; subst hz; exact begun144) 100).call 164 [] (.p (.bool true)) (by kernel_rfl)
theorem begun82 : PureCall Tryz.prog 126 [] (.p (.bool true)) := (envQ_ok (zs := [164]) (fun z hz => by simp at hz; subst hz; exact begun124) 100).call 126 [] (.p (.bool true)) (by kernel_rfl)
theorem begun40 : PureCall Tryz.prog 42 [] (.p (.bool true)) := (envQ_ok (zs := [126]) (fun z hz => by simp at hz; subst hz; exact begun82) 100).call 42 [] (.p (.bool true)) (by kernel_rfl)
theorem begun18 : PureCall Tryz.prog 15 [] (.p (.bool true)) := (envQ_ok (zs := [42]) (fun z hz => by simp at hz; subst hz; exact begun40) 100).call 15 [] (.p (.bool true)) (by kernel_rfl)
end Go.Proofs.YtoepoghmeajocaaGreatDoor.Vc
namespace Go.Proofs.YtoepoghmeajocaaGreatDoor.Vc
open Go.RowKit Ma
theorem lawPT (c : Cf) (nl : Bool) (ls : LL) (t : Tk) (w b : Int) : PureCall Tryz.prog 3 [eCf c, sLL nl ls, eT t, .int .i64 w, .int .i64 b] (.p (.bool true)) := by
 have hbeg : PureCall Tryz.prog 15 [] (.p (.bool true)) := begun18
 have hm := maxLen_eq
 obtain ⟨d, L, hd, h19, h20, hL, hlen, hfew, heach⟩ := kept c nl ls
 have hrl := (cf_head hd).2
 have h21 := one21 d t (by omega)
 have hcut := cut_len t
 generalize t.cut = u at *
 cases hok : u.ok d.res.length with
 | false =>
  rw [hok] at h21
  clear hm hL hlen hfew heach hrl hcut hd
  simp only [eCf, eT] at h19 h20 h21
  refine Fn.run k3 rfl ?_
  generalize Tryz.prog = P at *
  (repeat' ((conv => whnf); first | exact trivial | with_reducible refine zX ?_ | refine ⟨rfl, ?_⟩ | refine ⟨_, rfl, ?_⟩ | with_reducible refine zP ?_ | with_reducible refine zL ?_ | refine ⟨fun _ => ?_, fun _ => ?_⟩ | refine zn ?_ | refine zb rfl ?_ | refine zX ?_ | refine zo rfl ?_ | refine zs ?_ | intro _)); all_goals (try (conv => whnf))
  all_goals rfl
 | true =>
  rw [hok] at h21
  have hlim := lim_of hd hok
  have h28 := split28 d hd u hok false L hL hlen
  have h32 := zero32 d hd u hok false L hL hlen
  have h22 := place22 false L hL u 0 (by have := hlim.C1; omega) (by have := hlim.C1; have := hlim.CD; have := hlim.DT; have := hlim.T2; omega)
  have hwl := winP_len (L := L) hd hok hfew
  have hw2 : winP d u L ≠ [] → 2 ≤ (winP d u L).length := fun h => by obtain ⟨_, w0, h0⟩ := winP_spec hd hok h; exact h0.two
  have hz2 : zerP d u L ≠ [] → ∃ p q, zerP d u L = [p, q] := fun h => by
   obtain ⟨_, h0⟩ := zerP_spec h
   obtain ⟨a, b, x, _, _, _, _, _, _, _, _, e⟩ := h0.it
   exact ⟨_, _, e⟩
  have hma : ∀ (k : Int) (W : List Pc), W.length ≤ 7 → ∃ v, PureCall Tryz.prog 22 [eCf d, eT u, ePl k false W] (.p (.bool v)) ∧ PureCall Tryz.prog 23 [eCf d, eT u, ePl k false W] (.p (.bool v)) := fun k W hW =>
   ⟨_, may27 d hd u hok k false W (by omega), plan36 d (cf_head hd).1 u ⟨hlim.C1, by have := hlim.CD; have := hlim.DT; have := hlim.T2; omega⟩ k false W (by omega)⟩
  generalize winP d u L = W1 at *
  generalize zerP d u L = W2 at *
  have hwh : wholeP (coreV (L.map (·.2)) ⟨u.C + 0, u.D, u.T⟩) u.D u.C = [] ∨ ∃ p, wholeP (coreV (L.map (·.2)) ⟨u.C + 0, u.D, u.T⟩) u.D u.C = [p] := by
   unfold wholeP
   split
   ·exact .inl rfl
   ·exact .inr ⟨_, rfl⟩
  generalize wholeP (coreV (L.map (·.2)) ⟨u.C + 0, u.D, u.T⟩) u.D u.C = W3 at *
  by_cases e1 : W1 = []
  ·rw [planR, if_pos e1] at h28
   simp only [ePl, List.map_nil] at h28
   by_cases e2 : W2 = []
   ·rw [planR, if_pos e2] at h32
    simp only [ePl, List.map_nil] at h32
    rcases hwh with e3 | ⟨p1, e3⟩
    ·subst e3
     rw [planR, if_pos rfl] at h22
     simp only [ePl, List.map_nil] at h22
     exact ptN hbeg h19 h20 h21 h28 h32 h22
    ·subst e3
     rw [planR, if_neg (by simp)] at h22
     simp only [ePl, List.map_cons, List.map_nil, eP] at h22
     exact ptP1 ⟨hbeg, h19, h20, h21, hma⟩ h28 h32 h22
   ·obtain ⟨p1, p2, e3⟩ := hz2 e2
    subst e3
    rw [planR, if_neg (by simp)] at h32
    simp only [ePl, List.map_cons, List.map_nil, eP] at h32
    exact ptZ2 ⟨hbeg, h19, h20, h21, hma⟩ h28 h32
  ·have h2 := hw2 e1
   match W1, h28, hwl, h2 with
   | [], _, _, h2 => simp at h2
   | [_], _, _, h2 => simp at h2
   | [_, _], h28, _, _ =>
    rw [planR, if_neg (by simp)] at h28
    simp only [ePl, List.map_cons, List.map_nil, eP] at h28
    exact ptS2 ⟨hbeg, h19, h20, h21, hma⟩ h28
   | [_, _, _], h28, _, _ =>
    rw [planR, if_neg (by simp)] at h28
    simp only [ePl, List.map_cons, List.map_nil, eP] at h28
    exact ptS3 ⟨hbeg, h19, h20, h21, hma⟩ h28
   | [_, _, _, _], h28, _, _ =>
    rw [planR, if_neg (by simp)] at h28
    simp only [ePl, List.map_cons, List.map_nil, eP] at h28
    exact ptS4 ⟨hbeg, h19, h20, h21, hma⟩ h28
   | [_, _, _, _, _], h28, _, _ =>
    rw [planR, if_neg (by simp)] at h28
    simp only [ePl, List.map_cons, List.map_nil, eP] at h28
    exact ptS5 ⟨hbeg, h19, h20, h21, hma⟩ h28
   | [_, _, _, _, _, _], h28, _, _ =>
    rw [planR, if_neg (by simp)] at h28
    simp only [ePl, List.map_cons, List.map_nil, eP] at h28
    exact ptS6 ⟨hbeg, h19, h20, h21, hma⟩ h28
   | _ :: _ :: _ :: _ :: _ :: _ :: _ :: _, _, h, _ => simp at h
end Go.Proofs.YtoepoghmeajocaaGreatDoor.Vc
