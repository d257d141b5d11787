/- Part of a proof over a Go program: VcDraw. No condition. -/
import Derived.Test.YtnjphclbpgajpaaGreatDoorQ06
import Derived.Orders
set_option linter.unnecessarySimpa false
set_option linter.unusedSectionVars false
set_option linter.unusedSimpArgs false
set_option linter.unusedVariables false
namespace Go.Proofs.YtnjphclbpgajpaaGreatDoor.Vc
open Go.RowKit
variable {P : Program}
theorem binPV_ang {op : BinOp} {x y : PV} {K : PV → Prop} : binPV op x y K ↔ ∃ z, binPV op x y (fun z' => z' = z) ∧ K z := by
 constructor
 ·intro h
  unfold binPV at h ⊢
  cases x <;> cases y <;> cases op <;> simp only [] at h ⊢ <;> first
   | exact h.elim
   | exact ⟨_, rfl, h⟩
   | exact ⟨_, ⟨h.1, rfl⟩, h.2⟩
   | exact ⟨_, ⟨h.1, h.2.1, rfl⟩, h.2.2⟩
 ·rintro ⟨z, h, hK⟩
  unfold binPV at h ⊢
  cases x <;> cases y <;> cases op <;> simp only [] at h ⊢ <;> first
   | exact h.elim
   | (subst h; exact hK)
   | (obtain ⟨h1, rfl⟩ := h; exact ⟨h1, hK⟩)
   | (obtain ⟨h1, h2, rfl⟩ := h; exact ⟨h1, h2, hK⟩)
theorem loadP_ang {cells : List PV} {off n : Nat} {ag : Bool} {K : PV → Prop} : loadP cells off n ag K ↔ ∃ z, loadP cells off n ag (fun z' => z' = z) ∧ K z := by
 unfold loadP
 cases ag with
 | false => simp
 | true =>
  simp only [if_true]
  exact ⟨fun h => ⟨_, ⟨h.1, rfl⟩, h.2⟩, fun ⟨z, ⟨h1, h2⟩, h3⟩ => ⟨h1, h2 ▸ h3⟩⟩
def nolen : Kd → Bool
 | .ob (.callo _ false) | .ob (.callr _) | .ob (.mpe _) | .ob .ents | .ob (.lda _) => true
 | .len | .slb _ _ | .callm _ _ | .look _ _ | .mupd _ | .mkmap _ | .ob _ => false
 | _ => true
theorem growB_of {κ : Kd} (h : nolen κ.core = true) : growB κ = false := by
 cases κ with
 | ob κ => cases κ with
  | callo f gr => cases gr <;> first | rfl | (simp [Kd.core, nolen] at h)
  | callr f => rfl
  | mpe q => rfl
  | ents => rfl
  | lda n => rfl
  | _ => simp [Kd.core, nolen] at h
 | _ => rfl
theorem callO_ang {f : FuncId} {gr : Bool} {xs : List DV} {b : List (Option Box)} {K : DV → List (Option Box) → Prop} (h : callO P f gr xs b K) : ∃ v b', callO P f gr xs b (fun v1 b1 => v1 = v ∧ b1 = b') ∧ K v b' := by
 unfold callO at h ⊢
 split at h
 ·obtain ⟨bs', r, h1, h2, h3⟩ := h; exact ⟨_, _, ⟨bs', r, h1, h2, rfl, rfl⟩, h3⟩
 ·exact h.elim
theorem semO_ang {κ : KO} (hκ : nolen (.ob κ) = true) {vs : List DV} {b : List (Option Box)} {K : DV → List (Option Box) → Prop} (h : semO P κ vs b K) : ∃ v b', semO P κ vs b (fun v1 b1 => v1 = v ∧ b1 = b') ∧ K v b' := by
 cases κ with
 | callo f gr => exact callO_ang h
 | callr f =>
  obtain ⟨v, b', h1, e, hk⟩ := callO_ang (show callO P f false vs b (fun v b' => b' = b ∧ K v b) from h)
  refine ⟨v, b, ?_, hk⟩
  show callO P f false vs b (fun v1 b1 => b1 = b ∧ (v1 = v ∧ b = b))
  exact callO_mono (fun v1 b1 h => ⟨h.2.trans e, h.1, rfl⟩) h1
 | mpe q =>
  unfold semO at h ⊢
  split at h
  all_goals first
   | exact h.elim
   | (rename_i e1 e2; cases e1; done)
   | (rename_i e1; cases e1; done)
   | skip
  obtain ⟨h1, h2⟩ := h
  split at h2
  ·split at h2
   ·exact ⟨_, _, ⟨h1, rfl, rfl⟩, h2⟩
   ·exact h2.elim
  ·exact h2.elim
 | lda n =>
  unfold semO at h ⊢
  split at h
  all_goals first
   | exact h.elim
   | (rename_i e1 e2; cases e1; done)
   | (rename_i e1; cases e1; done)
   | skip
  split at h
  ·obtain ⟨h1, row, h2, h3, h4⟩ := h
   split at h4
   ·rename_i hq
    exact ⟨.agd _, b, ⟨h1, row, h2, h3, by simp [hq]⟩, h4⟩
   ·exact h4.elim
  ·exact h.elim
 | ents =>
  unfold semO at h ⊢
  split at h
  all_goals first
   | exact h.elim
   | (rename_i e1 e2; cases e1; done)
   | (rename_i e1; cases e1; done)
   | skip
  obtain ⟨h1, h2⟩ := h
  split at h2
  ·split at h2
   ·exact ⟨_, _, ⟨h1, rfl, rfl⟩, h2⟩
   ·exact h2.elim
  ·exact h2.elim
 | _ => simp [nolen] at hκ
theorem opnK_mono {j : Nat} {ag : Bool} {T : Ob} {K0 K0' : PV → Prop} {K K' : DV → Box → Prop} (h0 : ∀ x, K0 x → K0' x) (h1 : ∀ d b, K d b → K' d b) (h : opnK j ag T K0 K) : opnK j ag T K0' K' := by
 cases T with
 | ptr cells =>
  cases cells with
  | nil => exact h
  | cons c cs => exact h1 _ _ h
 | sl size nl rows =>
  cases size with
  | zero => exact h
  | succ n => cases nl with
   | true => exact h0 _ h
   | false => exact h1 _ _ h
 | mp keys vals => exact h1 _ _ h
 | _ => exact h
set_option maxHeartbeats 1000000 in
theorem semO_mono {κ : KO} {vs : List DV} {b : List (Option Box)} {K K' : DV → List (Option Box) → Prop} (hk : ∀ v b, K v b → K' v b) (h : semO P κ vs b K) : semO P κ vs b K' := by
 unfold semO at h ⊢
 split at h
 ·split at h
  ·obtain ⟨h1, row, h2, d, h3, h4⟩ := h
   refine ⟨h1, row, h2, d, h3, ?_⟩
   cases d with
   | ob T => exact ⟨h4.1, h4.2.1, opnK_mono (fun _ => hk _ _) (fun _ _ => hk _ _) h4.2.2⟩
   | _ => exact hk _ _ h4
  ·exact h.elim
 ·obtain ⟨c, h1, h2⟩ := h; exact ⟨c, h1, hk _ _ h2⟩
 ·exact callO_mono hk h
 ·split at h
  ·exact callO_mono hk h
  ·exact h.elim
 ·split at h
  ·exact hk _ _ h
  ·exact h.elim
 ·split at h
  ·exact hk _ _ h
  ·exact hk _ _ h
  ·exact hk _ _ h
  ·exact hk _ _ h
  ·exact h.elim
 ·split at h
  ·split at h
   ·exact ⟨h.1, h.2.1, h.2.2.1, fun e => hk _ _ (h.2.2.2.1 e), fun e => hk _ _ (h.2.2.2.2 e)⟩
   ·split at h
    ·obtain ⟨h1, h2, h3, h4, h5, h6, h7, h8⟩ := h; exact ⟨h1, h2, h3, h4, h5, h6, h7, hk _ _ h8⟩
    ·exact h.elim
   ·exact h.elim
  ·exact h.elim
 ·obtain ⟨h1, h2, h3, h4, h5, h6⟩ := h; exact ⟨h1, h2, h3, h4, h5, hk _ _ h6⟩
 ·obtain ⟨h1, h2, h3, h4, h5⟩ := h
  refine ⟨h1, h2, h3, h4, ?_⟩
  split at h5
  ·obtain ⟨h6, h7, h8, h9⟩ := h5; exact ⟨h6, h7, h8, hk _ _ h9⟩
  ·exact h5.elim
 ·obtain ⟨h1, h2, h3, h4⟩ := h; exact ⟨h1, h2, h3, hk _ _ h4⟩
 ·obtain ⟨h1, h2⟩ := h
  refine ⟨h1, ?_⟩
  split at h2
  ·split at h2
   ·split at h2
    ·rename_i ho; rw [if_pos ho]; obtain ⟨v, h3, h4⟩ := h2; exact ⟨v, h3, hk _ _ h4⟩
    ·rename_i ho; rw [if_neg ho]; exact hk _ _ h2
   ·exact hk _ _ h2
   ·exact h2.elim
  ·exact h2.elim
 ·obtain ⟨h1, h2, h3⟩ := h
  refine ⟨h1, h2, ?_⟩
  split at h3
  ·split at h3
   ·exact hk _ _ h3
   ·exact h3.elim
  ·exact h3.elim
 ·obtain ⟨h1, h2⟩ := h
  refine ⟨h1, ?_⟩
  split at h2
  ·split at h2
   ·exact hk _ _ h2
   ·exact h2.elim
  ·exact h2.elim
 ·split at h
  ·exact hk _ _ h
  ·exact h.elim
 ·exact callO_mono (fun v b' h => ⟨h.1, hk _ _ h.2⟩) h
 ·obtain ⟨h1, h2⟩ := h
  refine ⟨h1, ?_⟩
  split at h2
  ·split at h2
   ·exact hk _ _ h2
   ·exact h2.elim
  ·exact h2.elim
 ·split at h
  ·obtain ⟨h1, row, h2, h3, h4⟩ := h
   refine ⟨h1, row, h2, h3, ?_⟩
   split at h4
   ·exact hk _ _ h4
   ·exact h4.elim
  ·exact h.elim
 ·obtain ⟨h1, h2⟩ := h
  refine ⟨h1, ?_⟩
  split at h2
  ·split at h2
   ·exact hk _ _ h2
   ·exact h2.elim
  ·exact h2.elim
 ·exact h.elim
set_option maxHeartbeats 2000000 in
theorem semI_mono {κ : Kd} {vs : List DV} {b : List (Option Box)} {K K' : DV → List (Option Box) → Prop} (hk : ∀ v b, K v b → K' v b) (h : semI P κ vs b K) : semI P κ vs b K' := by
 unfold semI at h ⊢
 split at h <;> (repeat' split at h) <;> (try simp_all)
 all_goals first
  | (rw [loadP_ang] at h ⊢; obtain ⟨z, h1, h2⟩ := h; exact ⟨z, h1, hk _ _ h2⟩)
  | (rw [binPV_ang] at h ⊢; obtain ⟨z, h1, h2⟩ := h; exact ⟨z, h1, hk _ _ h2⟩)
  | exact semO_mono hk h
  | grind
set_option maxHeartbeats 2000000 in
theorem semI_ang {κ : Kd} (hκ : nolen κ = true) {vs : List DV} {b : List (Option Box)} {K : DV → List (Option Box) → Prop} (h : semI P κ vs b K) :
  ∃ v b', semI P κ vs b (fun v1 b1 => v1 = v ∧ b1 = b') ∧ K v b' := by
 unfold semI at h ⊢
 split at h <;> (repeat' split at h) <;> (try simp_all)
 all_goals first
  | (rw [loadP_ang] at h; obtain ⟨z, h1, h2⟩ := h; exact ⟨_, _, loadP_ang.2 ⟨z, h1, rfl, rfl⟩, h2⟩)
  | (rw [binPV_ang] at h; obtain ⟨z, h1, h2⟩ := h; exact ⟨_, _, binPV_ang.2 ⟨z, h1, rfl, rfl⟩, h2⟩)
  | (simp [nolen] at hκ; done)
  | exact semO_ang hκ h
  | exact ⟨_, _, ⟨rfl, rfl⟩, h⟩
  | exact ⟨_, _, ⟨rfl, rfl⟩, h.2⟩
  | exact ⟨_, _, ⟨rfl, rfl⟩, h.2.2⟩
  | grind
  | (cases ‹Bool› <;> grind)
  | (obtain ⟨r, h1, h2⟩ := h; exact ⟨_, _, ⟨r, h1, rfl, rfl⟩, h2⟩)
  | grind
  | (cases ‹Bool› <;> grind)
def clsA : Kd → Bool
 | .mov _ | .pick | .build _ _ | .bsl _ _ | .loadp _ _ | .bin _ | .eqnil _ | .un _ | .conv _ | .fad _ | .fld _ _ _ | .iad _ | .sidx | .lenD | .slen | .ext _ | .extp _ | .slc _ _ _ | .ssl _ _ | .stk | .eqat _ | .eqs _ _ | .eqb _ | .mkz _ _ _ | .s2b | .nilchk | .mn | .mx => true
 | _ => false
def clsB : Kd → Bool
 | .load _ _ take => !take
 | .app _ _ | .call _ | .callv | .mkfn _ => true
 | κ => clsA κ
set_option maxHeartbeats 2000000 in
theorem semI_keep {κ : Kd} (hκ : clsB κ = true) {vs : List DV} {b b' : List (Option Box)} {v : DV} (h : semI P κ vs b (fun v1 b1 => v1 = v ∧ b1 = b')) : b' = b := by
 cases κ <;> simp [clsB, clsA] at hκ
 all_goals
  unfold semI at h
  (repeat' split at h) <;> (try simp_all)
 all_goals first
  | (rw [loadP_ang] at h; obtain ⟨z, h1, h2, h3⟩ := h; exact h3.symm)
  | (rw [binPV_ang] at h; obtain ⟨z, h1, h2, h3⟩ := h; exact h3.symm)
  | grind
  | (cases ‹Bool› <;> grind)
set_option maxHeartbeats 2000000 in
theorem semI_ind {κ : Kd} (hκ : clsA κ = true) {vs : List DV} {b b' : List (Option Box)} {v : DV} (h : semI P κ vs b (fun v1 b1 => v1 = v ∧ b1 = b')) (b2 : List (Option Box)) :
  semI P κ vs b2 (fun v1 b1 => v1 = v ∧ b1 = b2) := by
 cases κ <;> simp [clsA] at hκ
 all_goals
  unfold semI at h ⊢
  (repeat' split at h) <;> (try simp_all)
 all_goals first
  | (rw [loadP_ang] at h ⊢; obtain ⟨z, h1, h2, h3⟩ := h; exact ⟨z, h1, h2⟩)
  | (rw [binPV_ang] at h ⊢; obtain ⟨z, h1, h2, h3⟩ := h; exact ⟨z, h1, h2⟩)
  | grind
theorem semJ_mono {κ : Kd} {vs : List DV} {b : List (Option Box)} {K K' : DV → List (Option Box) → Prop} (hk : ∀ v b, K v b → K' v b) (h : semJ P κ vs b K) : semJ P κ vs b K' := by
 unfold semJ at h ⊢
 split at h
 ·split at h
  ·exact ⟨h.1, semI_mono hk h.2⟩
  ·exact h
 ·exact ⟨h.1, semI_mono hk h.2⟩
 ·exact semI_mono hk h
theorem semJ_ang {κ : Kd} (hκ : nolen κ.core = true) {vs : List DV} {b : List (Option Box)} {K : DV → List (Option Box) → Prop} (h : semJ P κ vs b K) :
  ∃ v b', semJ P κ vs b (fun v1 b1 => v1 = v ∧ b1 = b') ∧ K v b' := by
 unfold semJ at h ⊢
 split at h
 ·split at h
  ·obtain ⟨v, b', h1, h2⟩ := semI_ang hκ h.2; exact ⟨v, b', ⟨h.1, h1⟩, h2⟩
  ·exact h.elim
 ·obtain ⟨v, b', h1, h2⟩ := semI_ang hκ h.2; exact ⟨v, b', ⟨h.1, h1⟩, h2⟩
 ·rename_i n1 n2
  have hb : κ.base = true := by cases κ <;> first | rfl | exact (n1 _ _ rfl).elim | exact (n2 _ rfl).elim
  rw [core_base hb] at hκ
  exact semI_ang hκ h
def plain2 : Kd → Bool
 | .call _ | .callv | .app _ _ | .mkfn _ => true
 | _ => false
def clsAJ : Kd → Bool
 | .pl κ => clsA κ || plain2 κ
 | .at _ _ => false
 | κ => clsA κ
def clsBJ : Kd → Bool
 | .pl κ => clsB κ
 | .at _ κ => clsB κ
 | .ob (.callr _) => true
 | .ob (.mpe _) => true
 | .ob (.lda _) => true
 | κ => clsB κ
theorem frz_pvOf {d : DV} {x : PV} (h : pvOf d = some x) (b : List (Option Box)) : d.frz b = some x := by cases d <;> simp [pvOf] at h <;> simp [DV.frz, h]
theorem frzs_pvsOf {ds : List DV} {xs : List PV} (h : pvsOf ds = some xs) (b : List (Option Box)) : frzs b ds = some xs := by
 induction ds generalizing xs with
 | nil => simpa [pvsOf, frzs] using h
 | cons d ds ih =>
  simp only [pvsOf] at h
  cases hd : pvOf d with
  | none => simp [hd] at h
  | some x =>
   cases hds : pvsOf ds with
   | none => simp [hd, hds] at h
   | some ys =>
    simp [hd, hds] at h
    subst h
    simp [frzs, frz_pvOf hd b, ih hds]
theorem semJ_keep {κ : Kd} (hκ : clsBJ κ = true) {vs : List DV} {b b' : List (Option Box)} {v : DV} (h : semJ P κ vs b (fun v1 b1 => v1 = v ∧ b1 = b')) : b' = b := by
 unfold semJ at h
 split at h
 ·split at h
  ·exact semI_keep hκ h.2
  ·exact h.elim
 ·exact semI_keep hκ h.2
 ·rename_i n1 n2
  by_cases hr : ∃ f, κ = .ob (.callr f)
  ·obtain ⟨f, rfl⟩ := hr
   obtain ⟨v', b'', _, e, e1, e2⟩ := callO_ang (show callO P f false vs b (fun v1 b1 => b1 = b ∧ (v1 = v ∧ b = b')) from h)
   exact e2.symm
  ·by_cases hq : ∃ q, κ = .ob (.mpe q)
   ·obtain ⟨q, rfl⟩ := hq
    have h : semO P (.mpe q) vs b (fun v1 b1 => v1 = v ∧ b1 = b') := h
    unfold semO at h
    split at h
    all_goals first
     | exact h.elim
     | (rename_i e1 e2; cases e1; done)
     | (rename_i e1; cases e1; done)
     | skip
    obtain ⟨h1, h2⟩ := h
    split at h2
    ·split at h2
     ·exact h2.2.symm
     ·exact h2.elim
    ·exact h2.elim
   by_cases hl : ∃ n, κ = .ob (.lda n)
   ·obtain ⟨n, rfl⟩ := hl
    have h : semO P (.lda n) vs b (fun v1 b1 => v1 = v ∧ b1 = b') := h
    unfold semO at h
    split at h
    all_goals first
     | exact h.elim
     | (rename_i e1 e2; cases e1; done)
     | (rename_i e1; cases e1; done)
     | skip
    split at h
    ·obtain ⟨h1, row, h2, h3, h4⟩ := h
     split at h4
     ·exact h4.2.symm
     ·exact h4.elim
    ·exact h.elim
   refine semI_keep ?_ h
   cases κ with
   | ob κ => cases κ with
    | lda n => exact (hl ⟨n, rfl⟩).elim
    | callr f => exact (hr ⟨f, rfl⟩).elim
    | mpe q => exact (hq ⟨q, rfl⟩).elim
    | _ => exact hκ
   | _ => first | exact hκ | exact (n1 _ _ rfl).elim | exact (n2 _ rfl).elim
theorem semI_pl {κ : Kd} (hκ : plain2 κ = true) {vs : List DV} (hp : (pvsOf vs).isSome = true) {b b' : List (Option Box)} {v : DV} (h : semI P κ vs b (fun v1 b1 => v1 = v ∧ b1 = b')) (b2 : List (Option Box)) :
  semI P κ vs b2 (fun v1 b1 => v1 = v ∧ b1 = b2) := by
 obtain ⟨xs, hxs⟩ := Option.isSome_iff_exists.1 hp
 cases κ <;> simp [plain2] at hκ
 case call f =>
  simp only [semI, frzs_pvsOf hxs] at h ⊢
  obtain ⟨r, h1, h2, _⟩ := h
  exact ⟨r, h1, h2, trivial⟩
 case callv =>
  cases vs with
  | nil => simp [semI] at h
  | cons d ds =>
   simp only [pvsOf] at hxs
   cases hd : pvOf d with
   | none => simp [hd] at hxs
   | some x =>
    cases hds : pvsOf ds with
    | none => simp [hd, hds] at hxs
    | some ys =>
     simp only [semI, frz_pvOf hd, frzs_pvsOf hds] at h ⊢
     split at h
     ·rename_i e1 e2
      obtain ⟨r, h1, h2, _⟩ := h
      injection e1 with e1
      injection e2 with e2
      subst e1
      subst e2
      exact ⟨r, h1, h2, trivial⟩
     ·exact h.elim
 case mkfn f =>
  simp only [semI, frzs_pvsOf hxs] at h ⊢
  exact ⟨h.1, trivial⟩
 case app size bytes =>
  match vs, h, hxs with
  | [.ow sz nl rows, y], h, hxs =>
   simp only [pvsOf] at hxs
   cases hy : pvOf y with
   | none => simp [hy] at hxs
   | some z =>
    simp only [semI, frz_pvOf hy] at h ⊢
    split at h
    ·rename_i e1
     injection e1 with e1
     subst e1
     exact ⟨h.1, h.2.1, h.2.2.1, h.2.2.2.1, h.2.2.2.2.1, trivial⟩
    ·exact h.elim
  | [], h, _ => simp [semI] at h
  | [_], h, _ => simp [semI] at h
  | _ :: _ :: _ :: _, h, _ => simp [semI] at h
  | [.top, _], h, _ => simp [semI] at h
  | [.p (.sl sz true []), y], h, hxs =>
   simp only [pvsOf] at hxs
   cases hy : pvOf y with
   | none => simp [hy] at hxs
   | some z =>
    simp only [semI, frz_pvOf hy] at h ⊢
    split at h
    ·rename_i e1
     injection e1 with e1
     subst e1
     exact ⟨h.1, h.2.1, h.2.2.1, h.2.2.2.1, h.2.2.2.2.1, trivial⟩
    ·exact h.elim
  | [.p (.sl _ true (_ :: _)), _], h, _ => simp [semI] at h
  | [.p (.sl _ false _), _], h, _ => simp [semI] at h
  | [.p (.int _ _), _], h, _ => simp [semI] at h
  | [.p (.bool _), _], h, _ => simp [semI] at h
  | [.p (.str _), _], h, _ => simp [semI] at h
  | [.p (.atom _), _], h, _ => simp [semI] at h
  | [.p (.agg _), _], h, _ => simp [semI] at h
  | [.p (.fn _ _), _], h, _ => simp [semI] at h
  | [.p (.ptr _ _), _], h, _ => simp [semI] at h
  | [.tup _, _], h, _ => simp [semI] at h
  | [.addr _ _ _ _, _], h, _ => simp [semI] at h
  | [.bs _ _ _ _ _, _], h, _ => simp [semI] at h
  | [.fn _ _, _], h, _ => simp [semI] at h
theorem semJ_ind {κ : Kd} (hκ : clsAJ κ = true) {vs : List DV} {b b' : List (Option Box)} {v : DV} (h : semJ P κ vs b (fun v1 b1 => v1 = v ∧ b1 = b')) (b2 : List (Option Box)) :
  semJ P κ vs b2 (fun v1 b1 => v1 = v ∧ b1 = b2) := by
 unfold semJ at h ⊢
 split at h
 ·cases hκ
 ·simp only [clsAJ, Bool.or_eq_true] at hκ
  rcases hκ with hκ | hκ
  ·exact ⟨h.1, semI_ind hκ h.2 b2⟩
  ·exact ⟨h.1, semI_pl hκ h.1 h.2 b2⟩
 ·rename_i n1 n2
  refine semI_ind ?_ h b2
  cases κ <;> first | exact hκ | exact (n1 _ _ rfl).elim | exact (n2 _ rfl).elim
theorem clsAB {κ : Kd} (h : clsAJ κ = true) : clsBJ κ = true := by
 cases κ <;> first | exact h | rfl | (rename_i κ; cases κ <;> first | exact h | rfl | cases h) | cases h
def rawB : List (Option Box) → Nat → Option Box
 | [], _ => none
 | x :: _, 0 => x
 | _ :: xs, n + 1 => rawB xs n
theorem getB_raw : ∀ (l : List (Option Box)) (n : Nat), getB l n = cellB (rawB l n)
 | [], _ => rfl
 | _ :: _, 0 => rfl
 | _ :: xs, n + 1 => getB_raw xs n
theorem raw_some {l : List (Option Box)} {n : Nat} {bx : Box} (h : getB l n = some bx) : (rawB l n).isSome = true := by
 rw [getB_raw] at h; rw [(cellB_some h).1]; rfl
theorem setB_self : ∀ (l : List (Option Box)) (n : Nat), setL l n (rawB l n) = l
 | [], _ => rfl
 | x :: xs, 0 => rfl
 | x :: xs, n + 1 => by simp only [setL, rawB]; rw [setB_self xs n]
theorem getB_setL_ne : ∀ (l : List (Option Box)) (n m : Nat) (x : Option Box), n ≠ m → rawB (setL l n x) m = rawB l m
 | [], _, _, _, _ => rfl
 | _ :: _, 0, 0, _, h => (h rfl).elim
 | _ :: _, 0, _ + 1, _, _ => rfl
 | _ :: _, _ + 1, 0, _, _ => rfl
 | _ :: xs, n + 1, m + 1, x, h => by simp only [setL, rawB]; exact getB_setL_ne xs n m x (by omega)
theorem getB_setL_eq : ∀ (l : List (Option Box)) (n : Nat) (x : Option Box), (rawB l n).isSome = true → rawB (setL l n x) n = x
 | [], _, _, h => by cases h
 | _ :: _, 0, _, _ => rfl
 | _ :: xs, n + 1, x, h => by simp only [setL, rawB] at h ⊢; exact getB_setL_eq xs n x h
theorem setB_comm : ∀ (l : List (Option Box)) (n m : Nat) (x y : Option Box), n ≠ m → setL (setL l n x) m y = setL (setL l m y) n x
 | [], _, _, _, _, _ => rfl
 | _ :: _, 0, 0, _, _, h => (h rfl).elim
 | _ :: _, 0, _ + 1, _, _, _ => rfl
 | _ :: _, _ + 1, 0, _, _, _ => rfl
 | _ :: xs, n + 1, m + 1, x, y, h => by simp only [setL]; rw [setB_comm xs n m x y (by omega)]
def atk : Kd → Option Nat
 | .at k (.load _ _ _) => some k
 | .at k (.store _) => some k
 | _ => none
theorem semJ_loc {κ : Kd} {k : Nat} (hκ : atk κ = some k) {vs : List DV} {b b' : List (Option Box)} {v : DV} (h : semJ P κ vs b (fun v1 b1 => v1 = v ∧ b1 = b')) :
  b' = setL b k (rawB b' k) ∧ ∀ b2, rawB b2 k = rawB b k → semJ P κ vs b2 (fun v1 b1 => v1 = v ∧ b1 = setL b2 k (rawB b' k)) := by
 unfold atk at hκ
 split at hκ
 ·rename_i k' n ag take
  injection hκ with hκ
  subst hκ
  simp only [semJ] at h ⊢
  split at h
  ·obtain ⟨rfl, h⟩ := h
   rename_i k2 sz r off rest
   cases rest with
   | cons _ _ => simp [semI] at h
   | nil =>
    simp only [semI] at h
    cases hb : getB b k2 with
    | none => simp [hb] at h
    | some bx =>
     simp only [hb] at h
     obtain ⟨h1, row, h2, h3, h4⟩ := h
     cases ag with
     | true =>
      simp only [if_true] at h4
      cases hp : pvsOf (takeD row off n) with
      | none => simp [hp] at h4
      | some cs =>
       simp only [hp] at h4
       obtain ⟨h4, rfl⟩ := h4
       refine ⟨by rw [setB_self], fun b2 h5 => ⟨rfl, ?_⟩⟩
       have h5' : getB b2 k2 = some bx := by rw [getB_raw, h5, ← getB_raw, hb]
       simp only [semI, h5']
       refine ⟨h1, row, h2, h3, ?_⟩
       simp only [if_true, hp]
       exact ⟨h4, by rw [← h5, setB_self]⟩
     | false =>
      simp only [Bool.false_eq_true, if_false] at h4
      obtain ⟨d, h5, h6, h7⟩ := h4
      cases take with
      | false =>
       simp only [Bool.false_eq_true, if_false] at h6 h7
       subst h7
       refine ⟨by rw [setB_self], fun b2 h8 => ⟨rfl, ?_⟩⟩
       have h8' : getB b2 k2 = some bx := by rw [getB_raw, h8, ← getB_raw, hb]
       simp only [semI, h8']
       refine ⟨h1, row, h2, h3, ?_⟩
       simp only [Bool.false_eq_true, if_false]
       exact ⟨d, h5, h6, by rw [← h8, setB_self]⟩
      | true =>
       simp only [if_true] at h6 h7
       subst h7
       rw [getB_setL_eq b k2 _ (raw_some hb)]
       refine ⟨rfl, fun b2 h8 => ⟨rfl, ?_⟩⟩
       have h8' : getB b2 k2 = some bx := by rw [getB_raw, h8, ← getB_raw, hb]
       simp only [semI, h8']
       refine ⟨h1, row, h2, h3, ?_⟩
       simp only [Bool.false_eq_true, if_false, if_true]
       exact ⟨d, h5, h6, rfl⟩
  ·exact h.elim
 ·rename_i k' n
  injection hκ with hκ
  subst hκ
  simp only [semJ] at h ⊢
  split at h
  ·obtain ⟨rfl, h⟩ := h
   rename_i k2 sz r off rest
   match rest, h with
   | [], h => simp [semI] at h
   | _ :: _ :: _, h => simp [semI] at h
   | [y], h =>
    simp only [semI] at h
    cases hb : getB b k2 with
    | none => simp [hb] at h
    | some bx =>
     cases hc : cellsOfD y with
     | none => simp [hb, hc] at h
     | some cs =>
      simp only [hb, hc] at h
      obtain ⟨h1, h2, h3, row, h4, h5, h6, h7⟩ := h
      subst h7
      rw [getB_setL_eq b k2 _ (raw_some hb)]
      refine ⟨rfl, fun b2 h8 => ⟨rfl, ?_⟩⟩
      have h8' : getB b2 k2 = some bx := by rw [getB_raw, h8, ← getB_raw, hb]
      simp only [semI, h8', hc]
      exact ⟨h1, h2, h3, row, h4, h5, h6, rfl⟩
  ·exact h.elim
 ·cases hκ
theorem setL_self : ∀ (l : List DV) (n : Nat), setL l n (getT l n) = l
 | [], _ => rfl
 | x :: xs, 0 => rfl
 | x :: xs, n + 1 => by simp only [setL, getT]; rw [setL_self xs n]
def degS : Kd → List O → Option Nat
 | .mov true, [.t n] => some n
 | .app _ _, .t n :: _ => some n
 | .store _, [_, .t n] => some n
 | .ext _, [.t n] => some n
 | _, _ => none
def degV : Kd → DV → DV
 | .ext j, d => match d with
  | .tup ds => match ds[j]? with
   | some x => .tup (setL ds j x.copy)
   | none => d
  | _ => d
 | _, d => d.copy
theorem degr_eq (κ : Kd) (xs : List O) (t : List DV) : degr κ xs t = match degS κ xs with
  | some n => setL t n (degV κ (getT t n))
  | none => t := by
 unfold degr degS
 split
 ·rfl
 ·rfl
 ·rfl
 ·rename_i j n
  simp only [degV]
  cases e : getT t n with
  | tup ds =>
   simp only
   cases e2 : ds[j]? with
   | none => simp only; rw [← e, setL_self]
   | some d => rfl
  | _ => simp only; rw [← e, setL_self]
 ·rename_i h1 h2 h3 h4
  split
  ·rename_i n heq
   exfalso
   split at heq
   ·exact h1 _ rfl rfl
   ·exact h2 _ _ _ _ rfl rfl
   ·exact h3 _ _ _ rfl rfl
   ·exact h4 _ _ rfl rfl
   ·cases heq
  ·rfl
def U (i : Ins) (v : DV) (t : List DV) : List DV := putD (degr i.k.core i.xs t) i.d v
theorem U_get (i : Ins) (v : DV) (t : List DV) (n : Nat) : (U i v t)[n]? = if i.d = some n then t[n]?.map (fun _ => v) else if degS i.k.core i.xs = some n then t[n]?.map (degV i.k.core) else t[n]? := by
 unfold U putD
 rw [degr_eq]
 have base : (match degS i.k.core i.xs with | some n => setL t n (degV i.k.core (getT t n)) | none => t)[n]? = if degS i.k.core i.xs = some n then t[n]?.map (degV i.k.core) else t[n]? := by
  cases hd : degS i.k.core i.xs with
  | none => simp
  | some m =>
   simp only [getElem?_setL, Option.some.injEq]
   by_cases hm : n = m
   ·subst hm
    rw [if_pos rfl, if_pos rfl, getT_eq]
    cases t[n]? <;> rfl
   ·rw [if_neg hm, if_neg (fun h => hm h.symm)]
 cases hdd : i.d with
 | none => simpa using base
 | some d =>
  simp only [getElem?_setL, Option.some.injEq]
  by_cases hm : n = d
  ·subst hm
   rw [if_pos rfl, if_pos rfl, base]
   split
   ·cases t[n]? <;> rfl
   ·rfl
  ·rw [if_neg hm, if_neg (fun h => hm h.symm), base]
def slotsO : List O → List Nat
 | [] => []
 | .t n :: os => n :: slotsO os
 | _ :: os => slotsO os
def looks (i : Ins) : List Nat :=
 match i.g with
 | some (j, _) => j :: slotsO i.xs
 | none => slotsO i.xs
theorem degS_mem {κ : Kd} {xs : List O} {n : Nat} (h : degS κ xs = some n) : n ∈ slotsO xs := by
 unfold degS at h
 split at h <;> simp at h <;> subst h
 ·simp [slotsO]
 ·simp [slotsO]
 ·rename_i o n; cases o <;> simp [slotsO]
 ·simp [slotsO]
def apartI (i j : Ins) : Bool :=
 (match i.d with
  | some d => !(looks j).contains d && i.d != j.d
  | none => true) &&
 ((match j.d with
  | some d => !(looks i).contains d
  | none => true) &&
 ((match degS i.k.core i.xs with
  | some n => !(looks j).contains n
  | none => true) &&
 (match degS j.k.core j.xs with
  | some n => !(looks i).contains n
  | none => true)))
structure Apart (i j : Ins) : Prop where
 d1 : ∀ d, i.d = some d → d ∉ looks j ∧ i.d ≠ j.d
 d2 : ∀ d, j.d = some d → d ∉ looks i ∧ j.d ≠ i.d
 g1 : ∀ n, degS i.k.core i.xs = some n → n ∉ looks j
 g2 : ∀ n, degS j.k.core j.xs = some n → n ∉ looks i
theorem Apart.symm {i j : Ins} (h : Apart i j) : Apart j i := ⟨h.d2, h.d1, h.g2, h.g1⟩
theorem apartI_ok {i j : Ins} (h : apartI i j = true) : Apart i j := by
 simp only [apartI, Bool.and_eq_true] at h
 obtain ⟨h1, h2, h3, h4⟩ := h
 refine ⟨fun d hd => ?_, fun d hd => ?_, fun n hn => ?_, fun n hn => ?_⟩
 ·rw [hd] at h1; simpa [hd] using h1
 ·rw [hd] at h2
  refine ⟨by simpa using h2, fun e => ?_⟩
  rw [hd] at e
  rw [← e] at h1
  simp [hd] at h1
 ·rw [hn] at h3; simpa using h3
 ·rw [hn] at h4; simpa using h4
theorem Apart.get {i j : Ins} (h : Apart i j) (v : DV) (t : List DV) {n : Nat} (hn : n ∈ looks j) : getT (U i v t) n = getT t n := by
 rw [getT_eq, getT_eq, U_get]
 rw [if_neg (fun e => (h.d1 n e).1 hn), if_neg (fun e => h.g1 n e hn)]
theorem looks_xs {i : Ins} {n : Nat} (h : n ∈ slotsO i.xs) : n ∈ looks i := by
 unfold looks
 cases i.g with
 | none => exact h
 | some g => exact List.mem_cons_of_mem _ h
theorem slotsO_mem {xs : List O} {n : Nat} (h : .t n ∈ xs) : n ∈ slotsO xs := by
 induction xs with
 | nil => simp at h
 | cons x xs ih =>
  cases x with
  | t m =>
   simp only [slotsO]
   rcases List.mem_cons.1 h with e | h
   ·injection e with e; subst e; exact List.mem_cons_self
   ·exact List.mem_cons_of_mem _ (ih h)
  | c d =>
   rcases List.mem_cons.1 h with e | h
   ·cases e
   ·exact ih h
theorem Apart.vals {i j : Ins} (h : Apart i j) (v : DV) (t : List DV) : j.xs.map (O.val (U i v t)) = j.xs.map (O.val t) := by
 refine List.map_congr_left fun x hx => ?_
 cases x with
 | c d => rfl
 | t n => exact h.get v t (looks_xs (slotsO_mem hx))
theorem Apart.comm {i j : Ins} (h : Apart i j) (v u : DV) (t : List DV) : U j u (U i v t) = U i v (U j u t) := by
 apply List.ext_getElem?
 intro n
 rw [U_get, U_get, U_get, U_get]
 have a1 : i.d = some n → j.d ≠ some n := fun e e' => (h.d1 n e).2 (e.trans e'.symm)
 have a2 : i.d = some n → degS j.k.core j.xs ≠ some n := fun e e' => (h.d1 n e).1 (looks_xs (degS_mem e'))
 have a3 : j.d = some n → degS i.k.core i.xs ≠ some n := fun e e' => (h.d2 n e).1 (looks_xs (degS_mem e'))
 have a4 : degS i.k.core i.xs = some n → degS j.k.core j.xs ≠ some n := fun e e' => h.g1 n e (looks_xs (degS_mem e'))
 by_cases e1 : i.d = some n
 ·simp [e1, a1 e1, a2 e1]
 ·by_cases e2 : j.d = some n
  ·simp [e1, e2, a3 e2]
  ·by_cases e3 : degS i.k.core i.xs = some n
   ·simp [e1, e2, e3, a4 e3]
   ·simp [e1, e2, e3]
theorem Apart.top {i j : Ins} (h : Apart i j) (u : DV) (t : List DV) : U j u (putD t i.d (.tup [])) = putD (U j u t) i.d (.tup []) := by
 apply List.ext_getElem?
 intro n
 cases hd : i.d with
 | none => rfl
 | some d =>
  simp only [putD]
  rw [U_get, getElem?_setL, getElem?_setL, U_get]
  by_cases e : n = d
  ·subst e
   have a1 : j.d ≠ some n := fun e' => (h.d1 n hd).2 (hd.trans e'.symm)
   have a2 : degS j.k.core j.xs ≠ some n := fun e' => (h.d1 n hd).1 (looks_xs (degS_mem e'))
   simp [a1, a2]
  ·simp [e]
theorem Apart.topget {i j : Ins} (h : Apart i j) (t : List DV) {n : Nat} (hn : n ∈ looks j) : getT (putD t i.d (.tup [])) n = getT t n := by
 cases hd : i.d with
 | none => rfl
 | some d =>
  simp only [putD]
  rw [getT_eq, getT_eq, getElem?_setL, if_neg (fun e => (h.d1 d hd).1 (by subst e; exact hn))]
def stepX (P : Program) (i : Ins) (s s' : St) : Prop := ∃ v, semJ P i.k (i.xs.map (O.val s.t)) s.b (fun v1 b1 => v1 = v ∧ b1 = s'.b) ∧ s'.t = U i v s.t
def stepI (P : Program) (i : Ins) (s s' : St) : Prop :=
 match i.g with
 | none => stepX P i s s'
 | some (j, want) => (∃ c, getT s.t j = .p (.bool c) ∧ (c = want → stepX P i s s') ∧ (c = (!want) → s' = ⟨putD s.t i.d (.tup []), s.b⟩)) ∨ (getT s.t j = .tup [] ∧ s' = ⟨putD s.t i.d (.tup []), s.b⟩)
theorem exec_iff {i : Ins} (hn : newBox i.k = none) (hl : nolen i.k.core = true) {s : St} {K : St → Prop} : exec P i s K ↔ ∃ s', stepX P i s s' ∧ K s' := by
 constructor
 ·rintro ⟨_, h⟩
  obtain ⟨v, b', h1, h2⟩ := semJ_ang hl h
  exact ⟨⟨U i v s.t, b'⟩, ⟨v, h1, rfl⟩, h2⟩
 ·rintro ⟨⟨t', b'⟩, ⟨v, h1, h2⟩, h3⟩
  simp only at h2
  subst h2
  refine ⟨by unfold fresh; rw [hn, growB_of hl]; trivial, semJ_mono (fun v1 b1 ⟨e1, e2⟩ => ?_) h1⟩
  subst e1
  subst e2
  exact h3
theorem execG_iff {i : Ins} (hn : newBox i.k = none) (hl : nolen i.k.core = true) {s : St} {K : St → Prop} : execG P i s K ↔ ∃ s', stepI P i s s' ∧ K s' := by
 unfold execG stepI
 cases hg : i.g with
 | none => exact exec_iff hn hl
 | some g =>
  obtain ⟨j, want⟩ := g
  simp only
  cases hv : getT s.t j with
  | p z =>
   cases z with
   | bool c =>
    simp only
    have es : setL s.t j (.p (.bool c)) = s.t := by rw [← hv]; exact setL_self _ _
    by_cases hc : c = want
    ·subst hc
     rw [es]
     constructor
     ·rintro ⟨h1, _⟩
      obtain ⟨s', h2, h3⟩ := (exec_iff hn hl).1 (h1 rfl)
      exact ⟨s', .inl ⟨c, rfl, fun _ => h2, fun h => by cases c <;> cases h⟩, h3⟩
     ·rintro ⟨s', ⟨c', e, h1, _⟩ | ⟨e, _⟩, h3⟩
      ·injection e with e
       injection e with e
       subst e
       exact ⟨fun _ => (exec_iff hn hl).2 ⟨s', h1 rfl, h3⟩, fun h => by cases c <;> cases h⟩
      ·cases e
    ·have hc' : c = !want := by cases c <;> cases want <;> simp at hc ⊢
     subst hc'
     rw [es]
     constructor
     ·rintro ⟨_, h2⟩
      exact ⟨_, .inl ⟨!want, rfl, fun h => absurd h hc, fun _ => rfl⟩, h2 rfl⟩
     ·rintro ⟨s', ⟨c', e, _, h2⟩ | ⟨e, _⟩, h3⟩
      ·injection e with e
       injection e with e
       subst e
       rw [h2 rfl] at h3
       exact ⟨fun h => absurd h hc, fun _ => h3⟩
      ·cases e
   | _ => simp
  | tup ds =>
   cases ds with
   | nil =>
    simp only
    constructor
    ·exact fun h => ⟨_, .inr ⟨trivial, rfl⟩, h⟩
    ·rintro ⟨s', ⟨c', e, _⟩ | ⟨_, e⟩, h3⟩
     ·cases e
     ·rw [e] at h3; exact h3
   | cons _ _ => simp
  | _ => simp
def indep (i j : Ins) : Bool :=
 apartI i j && ((newBox i.k).isNone && ((newBox j.k).isNone && (nolen i.k.core && (nolen j.k.core && ((clsBJ i.k && clsBJ j.k) || ((clsAJ i.k || clsAJ j.k) || (match atk i.k, atk j.k with | some k1, some k2 => k1 != k2 | _, _ => false)))))))
def gOK (i : Ins) (t : List DV) : Prop :=
 match i.g with
 | none => True
 | some (j, w) => getT t j = .p (.bool w)
def gNo (i : Ins) (t : List DV) : Prop :=
 match i.g with
 | none => False
 | some (j, w) => getT t j = .p (.bool (!w)) ∨ getT t j = .tup []
inductive StepK (P : Program) (i : Ins) (s s' : St) : Prop
 | ex (v : DV) (g : gOK i s.t) (h : semJ P i.k (i.xs.map (O.val s.t)) s.b (fun v1 b1 => v1 = v ∧ b1 = s'.b)) (ht : s'.t = U i v s.t)
 | sk (g : gNo i s.t) (e : s' = ⟨putD s.t i.d (.tup []), s.b⟩)
theorem stepI_iff {i : Ins} {s s' : St} : stepI P i s s' ↔ StepK P i s s' := by
 unfold stepI
 cases hg : i.g with
 | none =>
  constructor
  ·rintro ⟨v, h1, h2⟩; exact .ex v (by unfold gOK; rw [hg]; trivial) h1 h2
  ·rintro (⟨v, _, h1, h2⟩ | ⟨g, _⟩)
   ·exact ⟨v, h1, h2⟩
   ·unfold gNo at g; rw [hg] at g; exact g.elim
 | some g =>
  obtain ⟨j, w⟩ := g
  simp only
  constructor
  ·rintro (⟨c, e, h1, h2⟩ | ⟨e, h2⟩)
   ·by_cases hc : c = w
    ·obtain ⟨v, h3, h4⟩ := h1 hc
     exact .ex v (by unfold gOK; rw [hg]; subst hc; exact e) h3 h4
    ·have hc' : c = !w := by cases c <;> cases w <;> simp at hc ⊢
     exact .sk (by unfold gNo; rw [hg]; subst hc'; exact .inl e) (h2 hc')
   ·exact .sk (by unfold gNo; rw [hg]; exact .inr e) h2
  ·rintro (⟨v, g, h1, h2⟩ | ⟨g, e⟩)
   ·unfold gOK at g; rw [hg] at g
    exact .inl ⟨w, g, fun _ => ⟨v, h1, h2⟩, (fun h => by cases w <;> cases h)⟩
   ·unfold gNo at g; rw [hg] at g
    rcases g with g | g
    ·exact .inl ⟨!w, g, (fun h => by cases w <;> cases h), fun _ => e⟩
    ·exact .inr ⟨g, e⟩
theorem guard_looks {i : Ins} {j : Nat} {w : Bool} (h : i.g = some (j, w)) : j ∈ looks i := by unfold looks; rw [h]; exact List.mem_cons_self
theorem gOK_congr {i : Ins} {t t' : List DV} (h : ∀ n, n ∈ looks i → getT t' n = getT t n) : gOK i t' ↔ gOK i t := by
 unfold gOK
 cases hg : i.g with
 | none => rfl
 | some g => obtain ⟨j, w⟩ := g; simp only; rw [h j (guard_looks hg)]
theorem gNo_congr {i : Ins} {t t' : List DV} (h : ∀ n, n ∈ looks i → getT t' n = getT t n) : gNo i t' ↔ gNo i t := by
 unfold gNo
 cases hg : i.g with
 | none => rfl
 | some g => obtain ⟨j, w⟩ := g; simp only; rw [h j (guard_looks hg)]
theorem vals_congr {i : Ins} {t t' : List DV} (h : ∀ n, n ∈ looks i → getT t' n = getT t n) : i.xs.map (O.val t') = i.xs.map (O.val t) := by
 refine List.map_congr_left fun x hx => ?_
 cases x with
 | c d => rfl
 | t n => exact h n (looks_xs (slotsO_mem hx))
theorem putD_comm {i j : Ins} (h : Apart i j) (t : List DV) : putD (putD t i.d (.tup [])) j.d (.tup []) = putD (putD t j.d (.tup [])) i.d (.tup []) := by
 cases hi : i.d with
 | none => cases j.d <;> rfl
 | some d =>
  cases hj : j.d with
  | none => rfl
  | some e =>
   have hne : d ≠ e := fun h' => (h.d1 d hi).2 (by rw [hi, hj, h'])
   simp only [putD]
   apply List.ext_getElem?
   intro n
   simp only [getElem?_setL]
   by_cases h1 : n = d
   ·subst h1; simp [hne]
   ·by_cases h2 : n = e
    ·subst h2; simp [h1]
    ·simp [h1, h2]
theorem swapS {i j : Ins} (h : indep i j = true) {s s1 s2 : St} (h1 : StepK P i s s1) (h2 : StepK P j s1 s2) : ∃ s', StepK P j s s' ∧ StepK P i s' s2 := by
 simp only [indep, Bool.and_eq_true] at h
 obtain ⟨ha, _, _, _, _, hcl⟩ := h
 have hap := apartI_ok ha
 obtain ⟨t, b⟩ := s
 obtain ⟨t1, b1⟩ := s1
 obtain ⟨t2, b2⟩ := s2
 cases h1 with
 | ex v g1 m1 e1 =>
  simp only at g1 m1 e1
  subst e1
  have lj : ∀ n, n ∈ looks j → getT (U i v t) n = getT t n := fun n hn => hap.get v t hn
  cases h2 with
  | ex u g2 m2 e2 =>
   simp only at g2 m2 e2
   subst e2
   rw [gOK_congr lj] at g2
   rw [vals_congr lj] at m2
   have li : ∀ n, n ∈ looks i → getT (U j u t) n = getT t n := fun n hn => hap.symm.get u t hn
   have key : ∃ b', semJ P j.k (j.xs.map (O.val t)) b (fun v1 b1 => v1 = u ∧ b1 = b') ∧ semJ P i.k (i.xs.map (O.val t)) b' (fun v1 b1 => v1 = v ∧ b1 = b2) := by
    simp only [Bool.or_eq_true, Bool.and_eq_true] at hcl
    rcases hcl with ⟨c1, c2⟩ | (c1 | c2) | c3
    ·have k1 := semJ_keep c1 m1
     subst k1
     have k2 := semJ_keep c2 m2
     subst k2
     exact ⟨_, m2, m1⟩
    ·have k1 := semJ_keep (clsAB c1) m1
     subst k1
     exact ⟨_, m2, semJ_ind c1 m1 _⟩
    ·have k2 := semJ_keep (clsAB c2) m2
     subst k2
     exact ⟨b, semJ_ind c2 m2 _, m1⟩
    ·cases ei : atk i.k with
     | none => simp [ei] at c3
     | some k1 =>
      cases ej : atk j.k with
      | none => simp [ei, ej] at c3
      | some k2 =>
       simp only [ei, ej, bne_iff_ne, ne_eq] at c3
       obtain ⟨l1, l2⟩ := semJ_loc ei m1
       obtain ⟨l3, l4⟩ := semJ_loc ej m2
       have q1 : rawB b k2 = rawB b1 k2 := by rw [l1, getB_setL_ne _ _ _ _ c3]
       refine ⟨_, l4 b q1, ?_⟩
       have q2 := l2 (setL b k2 (rawB b2 k2)) (getB_setL_ne _ _ _ _ (fun e => c3 e.symm))
       rw [setB_comm _ _ _ _ _ (fun e => c3 e.symm), ← l1, ← l3] at q2
       exact q2
   obtain ⟨b', k1, k2⟩ := key
   refine ⟨⟨U j u t, b'⟩, .ex u g2 k1 rfl, .ex v ((gOK_congr li).2 g1) (by rw [vals_congr li]; exact k2) (hap.comm v u t)⟩
  | sk g2 e2 =>
   simp only at g2
   injection e2 with e2 e3
   subst e2
   subst e3
   rw [gNo_congr lj] at g2
   have li : ∀ n, n ∈ looks i → getT (putD t j.d (.tup [])) n = getT t n := fun n hn => hap.symm.topget t hn
   exact ⟨⟨putD t j.d (.tup []), b⟩, .sk g2 rfl, .ex v ((gOK_congr li).2 g1) (by rw [vals_congr li]; exact m1) (hap.symm.top v t).symm⟩
 | sk g1 e1 =>
  simp only at g1
  injection e1 with e1 e3
  subst e1
  subst e3
  have lj : ∀ n, n ∈ looks j → getT (putD t i.d (.tup [])) n = getT t n := fun n hn => hap.topget t hn
  cases h2 with
  | ex u g2 m2 e2 =>
   simp only at g2 m2 e2
   subst e2
   rw [gOK_congr lj] at g2
   rw [vals_congr lj] at m2
   have li : ∀ n, n ∈ looks i → getT (U j u t) n = getT t n := fun n hn => hap.symm.get u t hn
   refine ⟨⟨U j u t, b2⟩, .ex u g2 m2 rfl, .sk ((gNo_congr li).2 g1) ?_⟩
   rw [hap.top u t]
  | sk g2 e2 =>
   simp only at g2
   injection e2 with e2 e3
   subst e2
   subst e3
   rw [gNo_congr lj] at g2
   have li : ∀ n, n ∈ looks i → getT (putD t j.d (.tup [])) n = getT t n := fun n hn => hap.symm.topget t hn
   refine ⟨⟨putD t j.d (.tup []), _⟩, .sk g2 rfl, .sk ((gNo_congr li).2 g1) ?_⟩
   rw [putD_comm hap t]
theorem swap {i j : Ins} (h : indep i j = true) {s : St} {K : St → Prop} (hx : execG P i s (fun s => execG P j s K)) : execG P j s (fun s => execG P i s K) := by
 have h' := h
 simp only [indep, Bool.and_eq_true, Option.isNone_iff_eq_none] at h'
 obtain ⟨_, n1, n2, l1, l2, _⟩ := h'
 rw [execG_iff n1 l1] at hx
 obtain ⟨s1, h1, hx⟩ := hx
 rw [execG_iff n2 l2] at hx
 obtain ⟨s2, h2, hK⟩ := hx
 obtain ⟨s', k1, k2⟩ := swapS h (stepI_iff.1 h1) (stepI_iff.1 h2)
 rw [execG_iff n2 l2]
 refine ⟨s', stepI_iff.2 k1, ?_⟩
 rw [execG_iff n1 l1]
 exact ⟨s2, stepI_iff.2 k2, hK⟩
end Go.Proofs.YtnjphclbpgajpaaGreatDoor.Vc
