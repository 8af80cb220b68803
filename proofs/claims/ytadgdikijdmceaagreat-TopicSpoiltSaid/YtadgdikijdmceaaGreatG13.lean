/- Texts merged: TqA TqB TqC TqD. -/
import Derived.Test.YtadgdikijdmceaaGreatG12
import Derived.Test.YtadgdikijdmceaaGreatFwRg
set_option linter.unusedSimpArgs false
set_option linter.unusedVariables false
set_option maxRecDepth 100000
namespace Go.Fx
open Go
theorem Ext.rd {P P' : HProp} (a : Ext P P') {b : Nat} {o : Obj} (h : Rd P b o) : Rd P' b o := fun f hf => by
  obtain ⟨h', l, p⟩ := a f hf
  exact l _ _ (h h' p)
section
variable {X : Cx} {ops : Array Oper} {nb : NB} {N : Act → World → Prop} {i : Nat} {os : List Oper} {Ls : List HProp} {ds : List Deferred} {ρ : Regs} {L L' : List HProp} {Q : Exit → Act → World → Prop}
theorem cont_poolP {e : Exit} {b : Nat} {o : Obj} {P : HProp} (t : Take L [pts b o, P] L') (h : ∀ P', Ext P P' → Rd P' b o → Cont X Q e ds ρ (P' :: L')) : Cont X Q e ds ρ L :=
  cont_map (fun _ s => pool_in (Take.out2 t s)) (h _ (Ext.pool _ _) ((Ext.poolL _ _).rd (Rd.pts _ _)))
theorem ops_poolP {b : Nat} {o : Obj} {P : HProp} (t : Take L [pts b o, P] L') (h : ∀ P', Ext P P' → Rd P' b o → OpsL X ops nb N i os Ls ds ρ (P' :: L')) : OpsL X ops nb N i os Ls ds ρ L :=
  opsL_mapL (fun _ s => pool_in (Take.out2 t s)) (h _ (Ext.pool _ _) ((Ext.poolL _ _).rd (Rd.pts _ _)))
end
end Go.Fx
namespace Go.Proofs.YtadgdikijdmceaaGreat
open Go Go.Fx Go.Proofs Go.Pl

def newS (name : BA) (l : List Sg) : Sg := ⟨fileT name (nextS l), nextS l, []⟩
def layT (name : BA) (seg : Nat) : Nat → List Sg → List Sg → List BA → Dk → Dk × Int × List Sg × List Sg
  | 0, l, u, _, d => (d, 0, l, u)
  | n + 1, l, u, rs, d =>
    if rs.length = 0 then (d, 0, l, u) else
    match l.getLast? with
    | none => layT name seg n (l ++ [newS name l]) u rs d
    | some x =>
      if x.recs.length = seg then layT name seg n (l ++ [newS name l]) u rs d else
      if (d.append x.file (allF (rs.take (seg - x.recs.length)))).2 ≠ 0 then ((d.append x.file (allF (rs.take (seg - x.recs.length)))).1, (d.append x.file (allF (rs.take (seg - x.recs.length)))).2, [], u) else
      layT name seg n (l.dropLast ++ [⟨x.file, x.first, x.recs ++ rs.take (seg - x.recs.length)⟩]) (u ++ [x]) (rs.drop (seg - x.recs.length)) (d.append x.file (allF (rs.take (seg - x.recs.length)))).1
def fullS (seg : Nat) (l : List Sg) : Bool := match l.getLast? with | none => true | some x => decide (x.recs.length = seg)
def muL (seg : Nat) (l : List Sg) (rs : List BA) : Nat := 2 * rs.length + (if fullS seg l = true then 1 else 0)
theorem layT_done (name : BA) (seg n : Nat) (l u : List Sg) (d : Dk) : layT name seg n l u [] d = (d, 0, l, u) := by
  cases n with
  | zero => rfl
  | succ n => rw [layT, if_pos List.length_nil]
theorem layT_new {name : BA} {seg n : Nat} {l u : List Sg} {rs : List BA} {d : Dk} (h : fullS seg l = true) (hr : rs.length ≠ 0) : layT name seg (n + 1) l u rs d = layT name seg n (l ++ [newS name l]) u rs d := by
  rw [layT, if_neg hr]
  unfold fullS at h
  cases e : l.getLast? with
  | none => rfl
  | some x =>
    rw [e] at h
    dsimp only at h ⊢
    rw [if_pos (of_decide_eq_true h)]
theorem layT_app {name : BA} {seg n : Nat} {l u : List Sg} {rs : List BA} {d : Dk} {x : Sg} {r : Dk × Int} (h : l.getLast? = some x) (hx : x.recs.length ≠ seg) (hr : rs.length ≠ 0) (he : d.append x.file (allF (rs.take (seg - x.recs.length))) = r) : layT name seg (n + 1) l u rs d =
    if r.2 ≠ 0 then (r.1, r.2, [], u) else layT name seg n (l.dropLast ++ [⟨x.file, x.first, x.recs ++ rs.take (seg - x.recs.length)⟩]) (u ++ [x]) (rs.drop (seg - x.recs.length)) r.1 := by
  subst he
  rw [layT, if_neg hr, h]
  dsimp only
  rw [if_neg hx]
theorem allF_size (l : List BA) : (allF l).size ≤ lenT l := by
  unfold allF
  cases allOk l with
  | true => exact Nat.le_of_eq (framesOf_size l)
  | false => exact Nat.zero_le _
theorem append_loose (d : Dk) (x s : BA) : (d.append x s).1.loose.length ≤ d.loose.length + 1 := by
  unfold Dk.append
  split
  · exact Nat.le_succ _
  · split
    · exact Nat.le_succ _
    · exact doC_loose _ _
theorem nextS_new (name : BA) (l : List Sg) : nextS (l ++ [newS name l]) = nextS l := by
  show (match (l ++ [newS name l]).getLast? with | some x => x.first + x.recs.length | none => 0) = _
  rw [List.getLast?_concat]
  rfl
theorem fullS_new (name : BA) (l : List Sg) (seg : Nat) (h : seg ≠ 0) : fullS seg (l ++ [newS name l]) = false := by
  unfold fullS
  rw [List.getLast?_concat]
  exact decide_eq_false (fun e => h e.symm)
theorem lenT_split (l : List BA) (k : Nat) : lenT (l.take k) + lenT (l.drop k) = lenT l := by
  have h := congrArg lenT (List.take_append_drop k l)
  rw [lenT_cat] at h
  exact h

def clV (tbx : Nat) (u : Sm × Nat) : List Value := [.func (.func 60) #[] #[.pointer (some ⟨tbx, 0, none⟩), .pointer (some ⟨u.2, 0, none⟩)]]
structure UnR (P : HProp) (u : Sm × Nat) : Prop where
  rd : Rd P u.2 (.cells (sgV u.1).toArray 76)
  sg : SgR P u.1
  z : u.1.s.file.size ≤ 1000000
theorem UnR.ext {P P' : HProp} (a : Ext P P') {u : Sm × Nat} (h : UnR P u) : UnR P' u := ⟨a.rd h.rd, h.sg.ext a, h.z⟩
theorem undo_spec (tb b : Nat) (name : BA) (seg : Int) (vs : Value) (fault : Int) (d : Dk) (u : Sm × Nat) (tbx : Nat) (A : HProp) (hu : UnR A u) (ht : Rd A tbx (.cells #[.pointer (some ⟨tb, 0, none⟩)] 29)) (hd : d.Ok) (hl : d.loose.length ≤ 1099511627776) :
    FSpec Tryz.prog 60 [.pointer (some ⟨tbx, 0, none⟩), .pointer (some ⟨u.2, 0, none⟩)] [tpP tb b name seg vs fault, diskP b d, A] Unit (fun _ => True) (fun _ => .int .i64 (cutT d u.1.s).2) (fun _ => [tpP tb b name seg vs fault, diskP b (cutT d u.1.s).1, A]) := by
  have hC := cut_spec tb b name seg vs fault d u.1 A hu.sg hd hl (Nat.le_trans hu.z (by decide))
  have hr := hu.rd
  obtain ⟨⟨⟨file, first, recs⟩, ⟨pv, hpv⟩, ⟨sv, hsv⟩⟩, bx⟩ := u
  dsimp only [sgV] at hC hr ⊢
  refine spec_intro [] _ Tryz.func60 rfl Tryz.ntmps60 (by rfl) (fun w0 R => ?_)
  repeat' (first | (refine go_Y ?_; intros) | (refine gs_Y ?_ ?_ <;> (intro hgd; try (simp only [Bool.not_true, Bool.not_false] at hgd))) | (refine gc_Y ?_ ?_ <;> intro _) | fail)
  refine cl_Y (hC) ?_
  intro _ _
  repeat' (first | (refine go_Y ?_; intros) | (refine gs_Y ?_ ?_ <;> (intro hgd; try (simp only [Bool.not_true, Bool.not_false] at hgd))) | (refine gc_Y ?_ ?_ <;> intro _) | fail)
  (refine rt_Y (y := ()) (hrs := Tryz.results60) (hv := ?_) (hφ := ?_))
  · rfl
  · trivial
theorem undo_v (tb b : Nat) (name : BA) (seg : Int) (vs : Value) (fault : Int) (d : Dk) (u : Sm × Nat) (tbx : Nat) (A : HProp) (hu : UnR A u) (ht : Rd A tbx (.cells #[.pointer (some ⟨tb, 0, none⟩)] 29)) (hd : d.Ok) (hl : d.loose.length ≤ 1099511627776) :
    VSpec Tryz.prog (.func (.func 60) #[] #[.pointer (some ⟨tbx, 0, none⟩), .pointer (some ⟨u.2, 0, none⟩)]) [] [tpP tb b name seg vs fault, diskP b d, A] Unit (fun _ => True) (fun _ => .int .i64 (cutT d u.1.s).2) (fun _ => [tpP tb b name seg vs fault, diskP b (cutT d u.1.s).1, A]) :=
  vspec_func (args := []) (cap := [.pointer (some ⟨tbx, 0, none⟩), .pointer (some ⟨u.2, 0, none⟩)]) (undo_spec tb b name seg vs fault d u tbx A hu ht hd hl)
end Go.Proofs.YtadgdikijdmceaaGreat
set_option linter.unusedSimpArgs false
set_option linter.unusedVariables false
set_option maxRecDepth 100000
namespace Go.Proofs.YtadgdikijdmceaaGreat
open Go Go.Fx Go.Proofs Go.Pl

structure LayG where
  n : Nat
  l : List Sm
  lv : V1s
  us : List (Sm × Nat)
  uv : V1s
  rs : List BA
  rv : V1s
  D : Dk
  P : HProp
structure LayOk (A : HProp) (seg : Nat) (g : LayG) : Prop where
  ext : Ext A g.P
  sg : ∀ x ∈ g.l, SgR g.P x ∧ x.s.recs.length ≤ seg ∧ lenT x.s.recs + lenT g.rs ≤ 900000000 ∧ x.s.file.size ≤ 1000000
  us : ∀ u ∈ g.us, UnR g.P u
  rv : Vw g.P 1 g.rv.1 (g.rs.map strV)
  rc : ∃ p c, g.rv.1 = .slice p (g.rs.map strV).length c ∧ (g.rs.map strV).length ≤ c ∧ ∀ q, p = some q → q.spot = none
  ok : g.D.Ok
  lo : g.D.loose.length + g.n ≤ 4000000
  ln : g.l.length + g.n ≤ 4000000
  un : g.us.length + g.n ≤ 4000000
  mu : muL seg (g.l.map Sm.s) g.rs ≤ g.n
  nx : nextS (g.l.map Sm.s) + g.rs.length < 281474976710656
  z : lenT g.rs ≤ 900000000
structure RcR (P : HProp) (v : Value) (rs : List BA) : Prop where
  rv : Vw P 1 v (rs.map strV)
  rc : ∃ p c, v = .slice p (rs.map strV).length c ∧ (rs.map strV).length ≤ c ∧ ∀ q, p = some q → q.spot = none
structure UnsR (P : HProp) (tb tbx : Nat) (us : List (Sm × Nat)) : Prop where
  tx : Rd P tbx (.cells #[.pointer (some ⟨tb, 0, none⟩)] 29)
  un : ∀ u ∈ us, UnR P u
structure LayY where
  lv : Value
  l : List Sm
  tbx : Nat
  uv : Value
  us : List (Sm × Nat)
  P : HProp
theorem drop_rc {p : Option Addr} {len cap m : Nat} {xs : List (List Value)} (hl : xs.length = len - m) (hc : len ≤ cap) (hp : ∀ q, p = some q → q.spot = none) : ∃ p' c', dropV 1 p len cap m = .slice p' xs.length c' ∧ xs.length ≤ c' ∧ ∀ q, p' = some q → q.spot = none := by
  refine ⟨if cap = m then p else p.map (·.add (m * 1)), cap - m, by rw [hl]; rfl, by omega, fun q hq => ?_⟩
  split at hq
  · exact hp q hq
  · cases p with
    | none => cases hq
    | some a =>
      have := hp a rfl
      rw [← Option.some.inj hq]
      show (a.add (m * 1)).spot = none
      unfold Addr.add
      split
      · exact this
      · rfl
def newM (name : BA) (l : List Sg) : Sm := ⟨newS name l, ⟨.slice none 0 0, rfl⟩, ⟨.slice none 0 0, rfl⟩⟩
theorem map_lay_set {α β : Type} (f : α → β) (l : List α) (y : α) (h : l ≠ []) : (l.map f).set (l.length - 1) (f y) = (l.dropLast ++ [y]).map f := by
  induction l with
  | nil => exact absurd rfl h
  | cons a l ih =>
    cases l with
    | nil => rfl
    | cons b l =>
      have := ih (by simp)
      simp only [List.map_cons, List.length_cons, Nat.add_sub_cancel, List.set_cons_succ, List.dropLast_cons_cons, List.cons_append] at this ⊢
      rw [this]
set_option maxHeartbeats 32000000 in
theorem tlay_spec (tb b : Nat) (name : BA) (seg : Nat) (vs : Value) (fault : Int) (d : Dk) (l0 : List Sm) (rv : Value) (rs : List BA) (n : Nat) (A : HProp) (hl : SgsR A vs l0) (hr : RcR A rv rs) (hz : name.size ≤ 1000) (hs0 : 1 ≤ seg) (hs1 : seg ≤ 65536) (hd : d.Ok)
    (hB : ∀ x ∈ l0, x.s.recs.length ≤ seg ∧ lenT x.s.recs + lenT rs ≤ 900000000 ∧ x.s.file.size ≤ 1000000) (hlo : d.loose.length + n ≤ 4000000) (hln : l0.length + n ≤ 4000000) (hn : n ≤ 4000000) (hmu : muL seg (l0.map Sm.s) rs ≤ n) (hnx : nextS (l0.map Sm.s) + rs.length < 281474976710656) (hzr : lenT rs ≤ 900000000) :
    FSpec Tryz.prog 35 [.pointer (some ⟨tb, 0, none⟩), rv] [tpP tb b name (seg : Int) vs fault, diskP b d, A] LayY
      (fun y => Ext A y.P ∧ ((layT name seg n (l0.map Sm.s) [] rs d).2.1 = 0 → SgsR y.P y.lv y.l ∧ y.l.map Sm.s = (layT name seg n (l0.map Sm.s) [] rs d).2.2.1) ∧ UnsR y.P tb y.tbx y.us ∧ y.us.map (fun u => u.1.s) = (layT name seg n (l0.map Sm.s) [] rs d).2.2.2)
      (fun y => .tuple #[y.lv, y.uv, .int .i64 (layT name seg n (l0.map Sm.s) [] rs d).2.1]) (fun y => [row 43 1 y.uv (y.us.map (clV y.tbx)), tpP tb b name (seg : Int) vs fault, diskP b (layT name seg n (l0.map Sm.s) [] rs d).1, y.P]) := by
  generalize hres : layT name seg n (l0.map Sm.s) [] rs d = res
  have hC := fun P (h : Ext A P) => cloneS_spec vs P (l0.map sgV) (h.vw hl.vw) (by rw [List.length_map]; omega)
  have hrv1 : rv.oneCell' = true := by obtain ⟨p, c, rfl, _⟩ := hr.rc; rfl
  refine spec_intro [] _ Tryz.func35 rfl Tryz.ntmps35 (by rfl) (fun w0 R => ?_)
  refine ok_map (fun _ h => nilRow (e := 43) (n := 1) h) ?_
  repeat' (first | (refine go_Y ?_; intros) | (refine gs_Y ?_ ?_ <;> (intro hgd; try (simp only [Bool.not_true, Bool.not_false] at hgd))) | (refine gc_Y ?_ ?_ <;> intro _) | fail)
  rename_i tbx
  refine ops_poolP (b := tbx) (P := A) takeD ?_
  intro A' hE0 hRd0
  have hC := hC A' hE0
  refine cl_Y (hC) ?_
  rintro ⟨v2, hv2⟩ _
  repeat' (first | (refine go_Y ?_; intros) | (refine gs_Y ?_ ?_ <;> (intro hgd; try (simp only [Bool.not_true, Bool.not_false] at hgd))) | (refine gc_Y ?_ ?_ <;> intro _) | fail)
  refine ok_map (L' := [row 76 5 v2 (l0.map sgV), row 43 1 (.slice none 0 0) (([] : List (Sm × Nat)).map (clV tbx)), tpP tb b name (seg : Int) vs fault, diskP b d, A'] ++ R) entD ?_
  refine ok_loop' (γ := LayG) (fun g ρ L => LayOk A' seg g ∧ layT name seg g.n (g.l.map Sm.s) (g.us.map fun u => u.1.s) g.rs g.D = res ∧
      Knows ρ [(1, g.rv.1), (2, .pointer (some ⟨tbx, 0, none⟩)), (4, g.lv.1), (5, g.uv.1)] ∧
      L = [row 76 5 g.lv.1 (g.l.map sgV), row 43 1 g.uv.1 (g.us.map (clV tbx)), tpP tb b name (seg : Int) vs fault, diskP b g.D, g.P] ++ R) (fun g => g.n) ⟨n, l0, ⟨v2, hv2⟩, [], ⟨.slice none 0 0, rfl⟩, rs, ⟨rv, hrv1⟩, d, A'⟩ ⟨?_, hres, ⟨rfl, rfl, rfl, rfl, trivial⟩, rfl⟩ ?_
  · refine ⟨.refl _, fun x hx => ⟨(hl.sg x hx).ext hE0, hB x hx⟩, fun u hu => by simp at hu, hE0.vw hr.rv, hr.rc, hd, hlo, hln, by dsimp only; rw [List.length_nil]; omega, hmu, hnx, hzr⟩
  rintro ⟨n, l, ⟨lv, hlv⟩, us, ⟨uv, huv⟩, rs, ⟨rv, hrv⟩, D, P⟩ ρ L ⟨hg, hrs, hk, rfl⟩
  obtain ⟨hA, hsg, hus, hrvw, hrc, hD, hlo, hln, hun, hmu, hnx, hz2⟩ := hg
  dsimp only at hA hsg hus hrvw hrc hD hlo hln hun hmu hnx hz2 hrs hk ⊢
  refine ok_regs hk ?_
  have hRd := hA.rd hRd0
  obtain ⟨pr, cr, rfl, hcr, hpr⟩ := hrc
  have lrs : (rs.map strV).length = rs.length := by simp
  have ll : (l.map sgV).length = l.length := by simp
  have lu : (us.map (clV tbx)).length = us.length := by simp
  have hrl : 12 * rs.length ≤ lenT rs := len_lenT' rs
  refine ok_learn (rowShapeS (e := 43) (n := 1) (v := uv) (xs := us.map (clV tbx)) (by decide) takeD) ?_
  rintro ⟨pu, cu, rfl, hcu, _⟩
  cases t1 : decide ((0 : Int) < ((rs.map strV).length : Int)) with
  | false =>
    have h0 : rs = [] := List.eq_nil_of_length_eq_zero (by have := of_decide_eq_false t1; omega)
    subst h0
    rw [layT_done] at hrs
    subst hrs
    refine ok_learn (rowShapeS (e := 76) (n := 5) (v := lv) (xs := l.map sgV) (by decide) takeD) ?_
    rintro ⟨pl, cl, rfl, hcl, _⟩
    refine ok_poolN (ty := 76) (n := 5) (v := .slice pl (l.map sgV).length cl) (xs := l.map sgV) (P := P) takeD ?_
    intro P1 hE1 hv1
    repeat' (first | (refine go_Y ?_; intros) | (refine gs_Y ?_ ?_ <;> (intro hgd; try (simp only [Bool.not_true, Bool.not_false] at hgd))) | (refine gc_Y ?_ ?_ <;> intro _) | fail)
    (refine rt_Y (y := ⟨.slice pl (l.map sgV).length cl, l, tbx, (.slice pu (us.map (clV tbx)).length cu), us, P1⟩) (hrs := Tryz.results35) (hv := ?_) (hφ := ?_))
    · rfl
    · exact ⟨hE0.trans (hA.trans hE1), fun _ => ⟨⟨hv1, fun x hx => (hsg x hx).1.ext hE1, ⟨pl, cl, rfl, hcl⟩⟩, rfl⟩, ⟨hE1.rd hRd, fun u hu => (hus u hu).ext hE1⟩, rfl⟩
  | true =>
    have hr0 : rs.length ≠ 0 := by have := of_decide_eq_true t1; omega
    have hmu' := hmu
    unfold muL at hmu'
    obtain ⟨m, rfl⟩ : ∃ m, n = m + 1 := ⟨n - 1, by omega⟩
    have hnb : nextS (l.map Sm.s) ≤ 1000000000000000 := by omega
    have hN := tnextR_spec lv l P (fun x hx => (hsg x hx).1) (by omega) hnb
    have hF := file_spec tb b name (seg : Int) vs fault (nextS (l.map Sm.s)) (by omega) (by omega)
    have fresh : ∀ (hf : fullS seg (l.map Sm.s) = true) (w : Value) (hw : w.oneCell' = true), LayOk A' seg ⟨m, l ++ [newM name (l.map Sm.s)], ⟨w, hw⟩, us, ⟨(.slice pu (us.map (clV tbx)).length cu), huv⟩, rs, ⟨_, hrv⟩, D, P⟩ ∧
        layT name seg m ((l ++ [newM name (l.map Sm.s)]).map Sm.s) (us.map fun u => u.1.s) rs D = res := by
      intro hf w hw
      have e1 : (l ++ [newM name (l.map Sm.s)]).map Sm.s = l.map Sm.s ++ [newS name (l.map Sm.s)] := by rw [List.map_append]; rfl
      rw [layT_new hf hr0] at hrs
      refine ⟨⟨hA, fun x hx => ?_, hus, hrvw, ⟨pr, cr, rfl, hcr, hpr⟩, hD, by dsimp only; omega, by dsimp only; rw [List.length_append, List.length_singleton]; omega, by dsimp only; omega, ?_, ?_, hz2⟩, by rw [e1]; exact hrs⟩
      · rcases List.mem_append.1 hx with h | h
        · exact hsg x h
        · obtain rfl := List.mem_singleton.1 h
          refine ⟨⟨Vw.nil0, Vw.nil0⟩, Nat.zero_le _, ?_, ?_⟩
          · show lenT [] + lenT rs ≤ _
            have : lenT [] = 0 := rfl
            omega
          · show (fileT name (nextS (l.map Sm.s))).size ≤ _
            unfold fileT
            rw [ByteArray.size_append, ByteArray.size_append, hexS_size]
            have : dotT.size = 1 := rfl
            omega
      · dsimp only
        rw [e1]
        unfold muL
        rw [fullS_new _ _ _ (by omega)]
        rw [hf, if_pos rfl] at hmu'
        rw [if_neg (by decide)]
        omega
      · dsimp only
        rw [e1, nextS_new]
        exact hnx
    have e3 : (l ++ [newM name (l.map Sm.s)]).map sgV = l.map sgV ++ [[.string (fileT name (nextS (l.map Sm.s))), .int .u64 (nextS (l.map Sm.s) : Int), .slice none 0 0, .int .i64 0, .slice none 0 0]] := by rw [List.map_append]; rfl
    rcases List.eq_nil_or_concat l with h0 | ⟨l1, x, h0⟩
    · have hful : fullS seg (l.map Sm.s) = true := by rw [h0]; rfl
      have fr := fresh hful
      have t2 : decide (((l.map sgV).length : Int) - 1 < 0) = true := decide_eq_true (by rw [h0]; decide)
      generalize fileT name (nextS (l.map Sm.s)) = fN at hF e3
      generalize nextS (l.map Sm.s) = nN at hF hN e3 hnb
      repeat' (first | (refine go_Y ?_; intros) | (refine gs_Y ?_ ?_ <;> (intro hgd; try (simp only [Bool.not_true, Bool.not_false] at hgd))) | (refine gc_Y ?_ ?_ <;> intro _) | fail)
      refine cl_Y (hN) ?_
      intro _ _
      repeat' (first | (refine go_Y ?_; intros) | (refine gs_Y ?_ ?_ <;> (intro hgd; try (simp only [Bool.not_true, Bool.not_false] at hgd))) | (refine gc_Y ?_ ?_ <;> intro _) | fail)
      refine cl_Y (hF) ?_
      intro _ _
      repeat' (first | (refine go_Y ?_; intros) | (refine gs_Y ?_ ?_ <;> (intro hgd; try (simp only [Bool.not_true, Bool.not_false] at hgd))) | (refine gc_Y ?_ ?_ <;> intro _) | fail)
      rename_i w hw
      refine cont_map (L' := [row 76 5 w ((l ++ [newM name (l.map Sm.s)]).map sgV), row 43 1 (.slice pu (us.map (clV tbx)).length cu) (us.map (clV tbx)), tpP tb b name (seg : Int) vs fault, diskP b D, P] ++ R) (by rw [e3]; exact entD) ?_
      exact cont_back ⟨m, l ++ [newM name (l.map Sm.s)], ⟨w, hw⟩, us, ⟨(.slice pu (us.map (clV tbx)).length cu), huv⟩, rs, ⟨_, hrv⟩, D, P⟩ ⟨(fr w hw).1, (fr w hw).2, ⟨rfl, rfl, rfl, rfl, trivial⟩, rfl⟩ (by show m < m + 1; omega)
    · rw [List.concat_eq_append] at h0
      have hlast : (l.map Sm.s).getLast? = some x.s := by rw [h0, List.map_append, List.map_singleton, List.getLast?_concat]
      have hll : l.length = l1.length + 1 := by rw [h0]; simp
      have hxm : x ∈ l := by rw [h0]; simp
      have hxv : (l.map sgV)[l.length - 1]? = some (sgV x) := by rw [h0]; simp
      have hxi : l.length - 1 < (l.map sgV).length := by omega
      have hi : ((l.map sgV).length : Int) - 1 = ((l.length - 1 : Nat) : Int) := by omega
      have t2 : decide (((l.map sgV).length : Int) - 1 < 0) = false := decide_eq_false (by omega)
      obtain ⟨hxs, hxl, hxz, hxf⟩ := hsg x hxm
      refine ok_learn (rowShape (e := 76) (n := 5) (v := lv) (xs := l.map sgV) (by decide) takeD) ?_
      rintro (⟨_, hn0⟩ | ⟨gl, cl, rfl, hcl⟩)
      · have h9 := congrArg List.length hn0
        rw [ll, List.length_nil] at h9
        omega
      obtain ⟨⟨xf, xn, xr⟩, ⟨pv, hpv⟩, ⟨sv, hsv⟩⟩ := x
      have hxs' := hxs
      obtain ⟨k1, k2⟩ := hxs'
      dsimp only at k1 k2 hxl hxz hxf hlast
      have lp := plV_len xr 0
      have ls := smV_len xr
      refine ok_learn (VwIn.slice (VwIn.there (VwIn.there (VwIn.there (VwIn.there (VwIn.here k1)))))) ?_
      rintro ⟨qp, dp, rfl⟩
      refine ok_learn (VwIn.slice (VwIn.there (VwIn.there (VwIn.there (VwIn.there (VwIn.here k2)))))) ?_
      rintro ⟨qs, ds, rfl⟩
      have hxv' := hxv
      dsimp only [sgV] at hxv'
      cases t3 : decide (((plV xr 0).length : Int) = (seg : Int)) with
      | true =>
        have hful : fullS seg (l.map Sm.s) = true := by unfold fullS; rw [hlast]; exact decide_eq_true (by have := of_decide_eq_true t3; dsimp only; omega)
        have fr := fresh hful
        generalize fileT name (nextS (l.map Sm.s)) = fN at hF e3
        generalize nextS (l.map Sm.s) = nN at hF hN e3 hnb
        repeat' (first | (refine go_Y ?_; intros) | (refine gs_Y ?_ ?_ <;> (intro hgd; try (simp only [Bool.not_true, Bool.not_false] at hgd))) | (refine gc_Y ?_ ?_ <;> intro _) | fail)
        refine cl_Y (hN) ?_
        intro _ _
        repeat' (first | (refine go_Y ?_; intros) | (refine gs_Y ?_ ?_ <;> (intro hgd; try (simp only [Bool.not_true, Bool.not_false] at hgd))) | (refine gc_Y ?_ ?_ <;> intro _) | fail)
        refine cl_Y (hF) ?_
        intro _ _
        repeat' (first | (refine go_Y ?_; intros) | (refine gs_Y ?_ ?_ <;> (intro hgd; try (simp only [Bool.not_true, Bool.not_false] at hgd))) | (refine gc_Y ?_ ?_ <;> intro _) | fail)
        rename_i w hw
        refine cont_map (L' := [row 76 5 w ((l ++ [newM name (l.map Sm.s)]).map sgV), row 43 1 (.slice pu (us.map (clV tbx)).length cu) (us.map (clV tbx)), tpP tb b name (seg : Int) vs fault, diskP b D, P] ++ R) (by rw [e3]; exact entD) ?_
        exact cont_back ⟨m, l ++ [newM name (l.map Sm.s)], ⟨w, hw⟩, us, ⟨(.slice pu (us.map (clV tbx)).length cu), huv⟩, rs, ⟨_, hrv⟩, D, P⟩ ⟨(fr w hw).1, (fr w hw).2, ⟨rfl, rfl, rfl, rfl, trivial⟩, rfl⟩ (by show m < m + 1; omega)
      | false =>
        have hne : xr.length ≠ seg := by have := of_decide_eq_false t3; omega
        obtain ⟨q, hq⟩ : ∃ q, q = seg - xr.length := ⟨_, rfl⟩
        have hq1 : (if ((seg : Int) - ((plV xr 0).length : Int)) < ((rs.map strV).length : Int) then ((seg : Int) - ((plV xr 0).length : Int)) else ((rs.map strV).length : Int)) = ((min rs.length q : Nat) : Int) := by split <;> omega
        have hqr : min rs.length q ≤ rs.length := Nat.min_le_left _ _
        have hq0 : 1 ≤ min rs.length q := by omega
        generalize hmq : min rs.length q = mq at hq1 hqr hq0
        have htk : rs.take q = rs.take mq := by rw [← hmq, Nat.min_comm]; exact List.take_eq_take_min ..
        have hdr : rs.drop q = rs.drop mq := by
          rcases Nat.le_total q rs.length with h | h
          · rw [← hmq, Nat.min_eq_right h]
          · rw [← hmq, Nat.min_eq_left h, List.drop_eq_nil_of_le h, List.drop_length]
        have hsV : Vw P 1 (.slice pr mq cr) ((rs.take mq).map strV) := by
          have := Vw.take hrvw (k := mq) (by omega)
          rw [← List.map_take] at this
          exact this
        have hsl := lenT_split rs mq
        have hAl := All_spec (.slice pr mq cr) P (rs.take mq) hsV (by omega)
        have hAz := allF_size (rs.take mq)
        have hAp := append_spec b D xf (allF (rs.take mq)) hD (by omega) (by omega) (by omega)
        have hApl := append_loose D xf (allF (rs.take mq))
        have hApo : (D.append xf (allF (rs.take mq))).1.Ok := hD.append (by omega)
        have hla := fun r he => layT_app (name := name) (seg := seg) (n := m) (u := us.map fun u => u.1.s) (rs := rs) (d := D) (r := r) hlast hne hr0 he
        rw [← hq, htk, hdr] at hla
        generalize hrr : D.append xf (allF (rs.take mq)) = r at hAp hApl hApo
        rw [hla r hrr] at hrs
        obtain ⟨D', e⟩ := r
        dsimp only at hAp hApl hApo hrs
        cases t4 : decide (e = 0) with
        | false =>
          have t5 : (!decide (e = 0)) = true := by rw [t4]; rfl
          rw [if_pos (of_decide_eq_false t4)] at hrs
          subst hrs
          repeat' (first | (refine go_Y ?_; intros) | (refine gs_Y ?_ ?_ <;> (intro hgd; try (simp only [Bool.not_true, Bool.not_false] at hgd))) | (refine gc_Y ?_ ?_ <;> intro _) | fail)
          rename_i bx
          refine cl_Y (hAl) ?_
          intro _ _
          repeat' (first | (refine go_Y ?_; intros) | (refine gs_Y ?_ ?_ <;> (intro hgd; try (simp only [Bool.not_true, Bool.not_false] at hgd))) | (refine gc_Y ?_ ?_ <;> intro _) | fail)
          refine cl_Y (hAp) ?_
          intro _ _
          repeat' (first | (refine go_Y ?_; intros) | (refine gs_Y ?_ ?_ <;> (intro hgd; try (simp only [Bool.not_true, Bool.not_false] at hgd))) | (refine gc_Y ?_ ?_ <;> intro _) | fail)
          (refine rt_Y (y := ⟨.slice none 0 0, [], tbx, (.slice pu (us.map (clV tbx)).length cu), us, P⟩) (hrs := Tryz.results35) (hv := ?_) (hφ := ?_))
          · rfl
          · exact ⟨hE0.trans hA, fun h0 => absurd h0 (of_decide_eq_false t4), ⟨hRd, hus⟩, rfl⟩
        | true =>
          have t5 : (!decide (e = 0)) = false := by rw [t4]; rfl
          rw [if_neg (fun h => h (of_decide_eq_true t4))] at hrs
          have hW := with_spec ⟨⟨xf, xn, xr⟩, ⟨.slice qp (plV xr 0).length dp, hpv⟩, ⟨.slice qs (smV xr).length ds, hsv⟩⟩ (.slice pr mq cr) (rs.take mq) P hxs hsV (by dsimp only; omega)
          repeat' (first | (refine go_Y ?_; intros) | (refine gs_Y ?_ ?_ <;> (intro hgd; try (simp only [Bool.not_true, Bool.not_false] at hgd))) | (refine gc_Y ?_ ?_ <;> intro _) | fail)
          rename_i bx
          refine cl_Y (hAl) ?_
          intro _ _
          repeat' (first | (refine go_Y ?_; intros) | (refine gs_Y ?_ ?_ <;> (intro hgd; try (simp only [Bool.not_true, Bool.not_false] at hgd))) | (refine gc_Y ?_ ?_ <;> intro _) | fail)
          refine cl_Y (hAp) ?_
          intro _ _
          repeat' (first | (refine go_Y ?_; intros) | (refine gs_Y ?_ ?_ <;> (intro hgd; try (simp only [Bool.not_true, Bool.not_false] at hgd))) | (refine gc_Y ?_ ?_ <;> intro _) | fail)
          rename_i wu hwu
          refine clW_Y ([]) (hW) ?_
          rintro ⟨⟨s', ⟨pv', hp'⟩, ⟨sv', hs'⟩⟩, P2⟩ ⟨g2, ⟨j1, j2⟩, he⟩
          dsimp only at he j1 j2
          subst he
          refine ops_learn (VwIn.slice (VwIn.here j1)) ?_
          rintro ⟨qp2, dp2, rfl⟩
          refine ops_learn (VwIn.slice (VwIn.here j2)) ?_
          rintro ⟨qs2, ds2, rfl⟩
          dsimp only [sgV]
          repeat' (first | (refine go_Y ?_; intros) | (refine gs_Y ?_ ?_ <;> (intro hgd; try (simp only [Bool.not_true, Bool.not_false] at hgd))) | (refine gc_Y ?_ ?_ <;> intro _) | fail)
          obtain ⟨y, hy⟩ : ∃ y : Sm, y = ⟨⟨xf, xn, xr ++ rs.take mq⟩, ⟨.slice qp2 (plV (xr ++ rs.take mq) 0).length dp2, rfl⟩, ⟨.slice qs2 (smV (xr ++ rs.take mq)).length ds2, rfl⟩⟩ := ⟨_, rfl⟩
          obtain ⟨u1, hu1⟩ : ∃ u1 : Sm × Nat, u1 = (⟨⟨xf, xn, xr⟩, ⟨.slice qp (plV xr 0).length dp, rfl⟩, ⟨.slice qs (smV xr).length ds, rfl⟩⟩, bx) := ⟨_, rfl⟩
          have hlne : l ≠ [] := fun h => by rw [h] at hll; simp at hll
          have e4 := map_lay_set sgV l y hlne
          rw [hy] at e4
          dsimp only [sgV] at e4
          rw [← hy] at e4
          have e5 : (us ++ [u1]).map (clV tbx) = us.map (clV tbx) ++ [[.func (.func 60) #[] #[.pointer (some ⟨tbx, 0, none⟩), .pointer (some ⟨bx, 0, none⟩)]]] := by rw [List.map_append, hu1]; rfl
          have e6 : (l.dropLast ++ [y]).map Sm.s = (l.map Sm.s).dropLast ++ [⟨xf, xn, xr ++ rs.take mq⟩] := by rw [List.map_append, List.map_dropLast, hy]; rfl
          have e7 : (us ++ [u1]).map (fun u => u.1.s) = us.map (fun u => u.1.s) ++ [⟨xf, xn, xr⟩] := by rw [List.map_append, hu1]; rfl
          refine cont_poolP (b := bx) (P := P2) takeD ?_
          intro P3 hE3 hR3
          have hdv := hrvw.drop (k := mq) hcr
          rw [← List.map_drop] at hdv
          have ldr : ((rs.drop mq).map strV).length = (rs.map strV).length - mq := by simp
          have hrs0 : (l.map Sm.s).dropLast ++ [⟨xf, xn, xr ++ rs.take mq⟩] = (l.dropLast ++ [y]).map Sm.s := e6.symm
          rw [hrs0, ← e7] at hrs
          have hmq2 : mq ≤ q := by rw [← hmq]; exact Nat.min_le_right _ _
          have hnext : nextS (l.map Sm.s) = xn + xr.length := by unfold nextS; rw [hlast]
          refine cont_map (L' := [row 76 5 (.slice (some ⟨gl, 0, none⟩) (l.map sgV).length cl) ((l.dropLast ++ [y]).map sgV), row 43 1 wu ((us ++ [u1]).map (clV tbx)), tpP tb b name (seg : Int) vs fault, diskP b D', P3] ++ R) (by rw [← e4, e5]; exact entD) ?_
          exact cont_back ⟨m, l.dropLast ++ [y], ⟨.slice (some ⟨gl, 0, none⟩) (l.map sgV).length cl, rfl⟩, us ++ [u1], ⟨wu, hwu⟩, rs.drop mq, ⟨dropV 1 pr (rs.map strV).length cr mq, rfl⟩, D', P3⟩ ⟨⟨hA.trans (g2.trans hE3), (fun z hz => by
              rcases List.mem_append.1 hz with h | h
              · obtain ⟨a1, a2, a3, a4⟩ := hsg z ((List.dropLast_sublist l).subset h)
                exact ⟨(a1.ext g2).ext hE3, a2, by dsimp only; omega, a4⟩
              · obtain rfl := List.mem_singleton.1 h
                rw [hy]
                refine ⟨⟨hE3.vw j1, hE3.vw j2⟩, ?_, ?_, hxf⟩
                · show (xr ++ rs.take mq).length ≤ seg
                  rw [List.length_append, List.length_take]; omega
                · show lenT (xr ++ rs.take mq) + lenT (rs.drop mq) ≤ _
                  rw [lenT_cat]; omega), (fun z hz => by
              rcases List.mem_append.1 hz with h | h
              · exact ((hus z h).ext g2).ext hE3
              · obtain rfl := List.mem_singleton.1 h
                rw [hu1]
                exact ⟨hR3, (hxs.ext g2).ext hE3, hxf⟩), (hE3.vw (g2.vw hdv)), drop_rc ldr hcr hpr, hApo, by dsimp only; omega, by dsimp only; rw [List.length_append, List.length_dropLast, List.length_singleton]; omega, by dsimp only; rw [List.length_append, List.length_singleton]; omega, by
              dsimp only
              unfold muL
              rw [List.length_drop]
              split <;> split at hmu' <;> omega, by
              dsimp only
              rw [e6]
              unfold nextS
              rw [List.getLast?_concat, List.length_drop]
              show xn + (xr ++ rs.take mq).length + _ < _
              rw [List.length_append, List.length_take]
              omega, by dsimp only; omega⟩, hrs, ⟨rfl, rfl, rfl, rfl, trivial⟩, rfl⟩ (by show m < m + 1; omega)
end Go.Proofs.YtadgdikijdmceaaGreat
set_option linter.unusedSimpArgs false
set_option linter.unusedVariables false
set_option maxRecDepth 100000
namespace Go.Proofs.YtadgdikijdmceaaGreat
open Go Go.Fx Go.Proofs Go.Pl

def ueV (tbx : Nat) (y : (Sm × Nat) × Nat) : List Value := .int .i64 (y.2 : Int) :: clV tbx y.1
theorem backward_spec (pu : Option Addr) (nu cu : Nat) : FSpec Tryz.prog 63 [.slice pu nu cu] [] Nat (fun _ => True) (fun y => .func (.func 87) #[] [.pointer (some ⟨y, 0, none⟩)].toArray) (fun y => [pts y (.cells [.slice pu nu cu].toArray 66)]) := by
  refine spec_intro [] _ Tryz.func63 rfl Tryz.ntmps63 (by rfl) (fun w0 R => ?_)
  repeat' (first | (refine go_Y ?_; intros) | (refine gs_Y ?_ ?_ <;> (intro hgd; try (simp only [Bool.not_true, Bool.not_false] at hgd))) | (refine gc_Y ?_ ?_ <;> intro _) | fail)
  rename_i p
  (refine rt_Y (y := p) (hrs := Tryz.results63) (hv := ?_) (hφ := ?_))
  · rfl
  · trivial
theorem zip_rev_take (us : List (Sm × Nat)) (j : Nat) (h : j < us.length) : us.zipIdx.reverse.take (us.length - j) = us.zipIdx.reverse.take (us.length - (j + 1)) ++ [(us[j], j)] := by
  have hl : us.zipIdx.reverse.length = us.length := by simp
  have e : us.length - j = (us.length - (j + 1)) + 1 := by omega
  rw [e, List.take_succ_eq_append_getElem (by rw [hl]; omega)]
  congr 2
  rw [List.getElem_reverse, List.getElem_zipIdx]
  have : us.zipIdx.length - 1 - (us.length - (j + 1)) = j := by rw [List.length_zipIdx]; omega
  simp only [this, Nat.zero_add]
theorem backward1_spec (tbx p : Nat) (u : Value) (us : List (Sm × Nat)) (hn : us.length ≤ 1000000000) :
    IterSpec Tryz.prog 87 [.pointer (some ⟨p, 0, none⟩)] [pts p (.cells [u].toArray 66), row 43 1 u (us.map (clV tbx))] us.zipIdx.reverse (ueV tbx) := by
  intro yv St Sp go hy
  have lu : (us.map (clV tbx)).length = us.length := by simp
  have hzl : us.zipIdx.reverse.length = us.length := by simp
  refine spec_intro [] _ Tryz.func87 rfl Tryz.ntmps87 (by rfl) (fun w0 R => ?_)
  refine ok_learn (rowShapeS (e := 43) (n := 1) (v := u) (xs := us.map (clV tbx)) (by decide) takeD) ?_
  rintro ⟨pu, cu, rfl, hcu, _⟩
  repeat' (first | (refine go_Y ?_; intros) | (refine gs_Y ?_ ?_ <;> (intro hgd; try (simp only [Bool.not_true, Bool.not_false] at hgd))) | (refine gc_Y ?_ ?_ <;> intro _) | fail)
  refine ok_map (L' := [pts p (.cells [.slice pu (us.map (clV tbx)).length cu].toArray 66), row 43 1 (.slice pu (us.map (clV tbx)).length cu) (us.map (clV tbx)), St []] ++ R) entD ?_
  refine ok_loop' (γ := Nat) (fun g ρ L => g ≤ us.length ∧ eat go [] us.zipIdx.reverse = eat go (us.zipIdx.reverse.take (us.length - g)) (us.zipIdx.reverse.drop (us.length - g)) ∧ Knows ρ [(0, yv), (1, .pointer (some ⟨p, 0, none⟩)), (3, .int .i64 ((g : Int) - 1))] ∧
      L = [pts p (.cells [.slice pu (us.map (clV tbx)).length cu].toArray 66), row 43 1 (.slice pu (us.map (clV tbx)).length cu) (us.map (clV tbx)), St (us.zipIdx.reverse.take (us.length - g))] ++ R) (fun g => g) us.length ⟨Nat.le_refl _, by rw [Nat.sub_self]; rfl, ⟨rfl, rfl, by rw [lu]; rfl, trivial⟩, by rw [Nat.sub_self]; rfl⟩ ?_
  rintro g ρ L ⟨hg, he, hk, rfl⟩
  refine ok_regs hk ?_
  cases t1 : decide ((0 : Int) ≤ (g : Int) - 1) with
  | false =>
    have h0 : g = 0 := by have := of_decide_eq_false t1; omega
    subst h0
    rw [Nat.sub_zero, List.drop_of_length_le (by rw [hzl]; exact Nat.le_refl _), List.take_of_length_le (by rw [hzl]; exact Nat.le_refl _)] at he
    rw [he, Nat.sub_zero, List.take_of_length_le (by rw [hzl]; exact Nat.le_refl _)]
    repeat' (first | (refine go_Y ?_; intros) | (refine gs_Y ?_ ?_ <;> (intro hgd; try (simp only [Bool.not_true, Bool.not_false] at hgd))) | (refine gc_Y ?_ ?_ <;> intro _) | fail)
    (refine rt_Y (y := ()) (hrs := Tryz.results87) (hv := ?_) (hφ := ?_))
    · rfl
    · trivial
  | true =>
    obtain ⟨j, rfl⟩ : ∃ j, g = j + 1 := ⟨g - 1, by have := of_decide_eq_true t1; omega⟩
    have hj : j < us.length := by omega
    have hti := zip_rev_take us j hj
    have hin : j < (us.map (clV tbx)).length := by omega
    have hx : (us.map (clV tbx))[j]? = some (clV tbx us[j]) := by rw [List.getElem?_map, List.getElem?_eq_getElem hj]; rfl
    have hgi : ((j + 1 : Nat) : Int) - 1 = (j : Int) := by omega
    have hdr : us.zipIdx.reverse.drop (us.length - (j + 1)) = (us[j], j) :: us.zipIdx.reverse.drop (us.length - j) := by
      rw [List.drop_eq_getElem_cons (by rw [hzl]; omega)]
      have e : us.length - (j + 1) + 1 = us.length - j := by omega
      rw [e]
      congr 1
      rw [List.getElem_reverse, List.getElem_zipIdx]
      have : us.zipIdx.length - 1 - (us.length - (j + 1)) = j := by rw [List.length_zipIdx]; omega
      simp only [this, Nat.zero_add]
    rw [hdr, eat_cons, ← hti] at he
    have hpre : us.zipIdx.reverse.take (us.length - (j + 1)) ++ [(us[j], j)] <+: us.zipIdx.reverse := by rw [← hti]; exact List.take_prefix _ _
    have hv := hy _ _ hpre
    rw [← hti] at hv
    refine ok_learn (VwIn.base (n := 1) (p := pu) (len := (us.map (clV tbx)).length) (cap := cu) (xs := us.map (clV tbx)) (VwIn.there (VwIn.here Vw.row)) (by intro e; rw [e] at hin; simp at hin)) ?_
    rintro ⟨bu, ou, rfl⟩
    generalize us[j] = u0 at hx hv he
    dsimp only [clV] at hx
    unfold ueV clV at hv
    dsimp only at hv
    rw [hgi] at t1 ⊢
    cases hgo : go (us.zipIdx.reverse.take (us.length - j)) with
    | false =>
      rw [hgo] at hv he
      rw [he]
      repeat' (first | (refine go_Y ?_; intros) | (refine gs_Y ?_ ?_ <;> (intro hgd; try (simp only [Bool.not_true, Bool.not_false] at hgd))) | (refine gc_Y ?_ ?_ <;> intro _) | fail)
      refine clV_Y (hv) ?_
      intro _ _
      repeat' (first | (refine go_Y ?_; intros) | (refine gs_Y ?_ ?_ <;> (intro hgd; try (simp only [Bool.not_true, Bool.not_false] at hgd))) | (refine gc_Y ?_ ?_ <;> intro _) | fail)
      (refine rt_Y (y := ()) (hrs := Tryz.results87) (hv := ?_) (hφ := ?_))
      · rfl
      · trivial
    | true =>
      rw [hgo] at hv he
      repeat' (first | (refine go_Y ?_; intros) | (refine gs_Y ?_ ?_ <;> (intro hgd; try (simp only [Bool.not_true, Bool.not_false] at hgd))) | (refine gc_Y ?_ ?_ <;> intro _) | fail)
      refine clV_Y (hv) ?_
      intro _ _
      repeat' (first | (refine go_Y ?_; intros) | (refine gs_Y ?_ ?_ <;> (intro hgd; try (simp only [Bool.not_true, Bool.not_false] at hgd))) | (refine gc_Y ?_ ?_ <;> intro _) | fail)
      rw [if_pos rfl] at he
      rw [if_pos rfl]
      refine cont_map (L' := [pts p (.cells [.slice (some ⟨bu, ou, none⟩) (us.map (clV tbx)).length cu].toArray 66), row 43 1 (.slice (some ⟨bu, ou, none⟩) (us.map (clV tbx)).length cu) (us.map (clV tbx)), St (us.zipIdx.reverse.take (us.length - j))] ++ R) entD ?_
      exact cont_back j ⟨by omega, he, ⟨rfl, rfl, rfl, trivial⟩, rfl⟩ (by omega)
def backL : List Sg → Int → Dk → Dk × Int × Int
  | [], f, d => (d, f, 0)
  | x :: l, f, d => if (cutT d x).2 ≠ 0 then ((cutT d x).1, downT f (cutT d x).2, (cutT d x).2) else backL l (downT f (cutT d x).2) (cutT d x).1
def backT (u : List Sg) (f : Int) (d : Dk) : Dk × Int × Int :=
  if (backL u.reverse f d).2.2 ≠ 0 then backL u.reverse f d else
  if 0 < u.length then
    if (backL u.reverse f d).1.sync.2 ≠ 0 then ((backL u.reverse f d).1.sync.1, downT (backL u.reverse f d).2.1 (backL u.reverse f d).1.sync.2, (backL u.reverse f d).1.sync.2)
    else ((backL u.reverse f d).1.sync.1, downT (backL u.reverse f d).2.1 (backL u.reverse f d).1.sync.2, 4)
  else ((backL u.reverse f d).1, (backL u.reverse f d).2.1, 4)
def sgY (y : (Sm × Nat) × Nat) : Sg := y.1.1.s
structure BkS where
  d : Dk
  f : Int
  c : Int
  e : Int
def bkStep (s : BkS) (y : (Sm × Nat) × Nat) : BkS := ⟨(cutT s.d (sgY y)).1, downT s.f (cutT s.d (sgY y)).2, if (cutT s.d (sgY y)).2 ≠ 0 then (cutT s.d (sgY y)).2 else s.c, (cutT s.d (sgY y)).2⟩
def bkQ (s : BkS) (q : List ((Sm × Nat) × Nat)) : BkS := q.foldl bkStep s
def goB (s : BkS) (q : List ((Sm × Nat) × Nat)) : Bool := decide ((bkQ s q).e = 0)
theorem bkQ_snoc (s : BkS) (q : List ((Sm × Nat) × Nat)) (y : (Sm × Nat) × Nat) : bkQ s (q ++ [y]) = bkStep (bkQ s q) y := by unfold bkQ; rw [List.foldl_append]; rfl
theorem bkQ_ok (s : BkS) (h : s.d.Ok) (q : List ((Sm × Nat) × Nat)) : (bkQ s q).d.Ok ∧ (bkQ s q).d.loose.length ≤ s.d.loose.length + q.length := by
  induction q generalizing s with
  | nil => exact ⟨h, Nat.le_refl _⟩
  | cons y l ih =>
    have h1 := cutT_loose s.d (sgY y)
    obtain ⟨a, b⟩ := ih (bkStep s y) (cutT_ok h _)
    refine ⟨a, ?_⟩
    have : (bkStep s y).d = (cutT s.d (sgY y)).1 := rfl
    rw [this] at b
    rw [List.length_cons]
    show (bkQ (bkStep s y) l).d.loose.length ≤ _
    omega
theorem eat_goB (s : BkS) : ∀ (l q : List ((Sm × Nat) × Nat)), (bkQ s q).c = 0 → backL (l.map sgY) (bkQ s q).f (bkQ s q).d = ((bkQ s (eat (goB s) q l).1).d, (bkQ s (eat (goB s) q l).1).f, (bkQ s (eat (goB s) q l).1).c) ∧ (eat (goB s) q l).2 = decide ((bkQ s (eat (goB s) q l).1).c = 0)
  | [], q, h => by
    refine ⟨?_, (decide_eq_true h).symm⟩
    show (_, _, (0 : Int)) = (_, _, _)
    show _ = ((bkQ s q).d, (bkQ s q).f, (bkQ s q).c)
    rw [h]
  | x :: l, q, h => by
    have hs := bkQ_snoc s q x
    rw [eat_cons, List.map_cons, backL]
    by_cases h0 : (cutT (bkQ s q).d (sgY x)).2 = 0
    · have hg : goB s (q ++ [x]) = true := by unfold goB; rw [hs]; exact decide_eq_true h0
      rw [hg, if_pos rfl, if_neg (fun k => k h0)]
      have := eat_goB s l (q ++ [x]) (by rw [hs]; show (if _ then _ else _) = _; rw [if_neg (fun k => k h0)]; exact h)
      rw [hs] at this
      exact this
    · have hg : goB s (q ++ [x]) = false := by unfold goB; rw [hs]; exact decide_eq_false h0
      rw [hg, if_pos h0, if_neg (show ¬ (false = true) by decide), hs]
      have hc : (bkStep (bkQ s q) x).c = (cutT (bkQ s q).d (sgY x)).2 := if_pos h0
      dsimp only
      rw [hc]
      exact ⟨rfl, (decide_eq_false h0).symm⟩
set_option maxHeartbeats 8000000 in
theorem back_spec (tb b tbx : Nat) (name : BA) (seg : Int) (vs : Value) (fault : Int) (d : Dk) (u : Value) (us : List (Sm × Nat)) (A : HProp) (hU : UnsR A tb tbx us) (hn : us.length ≤ 1000000000) (hd : d.Ok) (hlo : d.loose.length ≤ 10000000) :
    FSpec Tryz.prog 36 [.pointer (some ⟨tb, 0, none⟩), u] [row 43 1 u (us.map (clV tbx)), tpP tb b name seg vs fault, diskP b d, A] Unit (fun _ => True)
      (fun _ => .int .i64 (backT (us.map fun u => u.1.s) fault d).2.2) (fun _ => [tpP tb b name seg vs (backT (us.map fun u => u.1.s) fault d).2.1, diskP b (backT (us.map fun u => u.1.s) fault d).1, A]) := by
  have hrev : us.zipIdx.reverse.map sgY = (us.map fun u => u.1.s).reverse := by
    rw [List.map_reverse]
    congr 1
    apply List.ext_getElem?
    intro i
    simp [List.getElem?_map, List.getElem?_zipIdx, sgY]
    cases us[i]? <;> rfl
  have lu : (us.map (clV tbx)).length = us.length := by simp
  have lz : us.zipIdx.reverse.length = us.length := by simp
  have lus : (us.map fun u => u.1.s).length = us.length := by simp
  have hback := eat_goB ⟨d, fault, 0, 0⟩ us.zipIdx.reverse [] rfl
  rw [hrev] at hback
  have htx := hU.tx
  refine spec_intro [] _ Tryz.func36 rfl Tryz.ntmps36 (by rfl) (fun w0 R => ?_)
  refine ok_learn (rowShapeS (e := 43) (n := 1) (v := u) (xs := us.map (clV tbx)) (by decide) takeD) ?_
  rintro ⟨pu, cu, rfl, hcu, _⟩
  repeat' (first | (refine go_Y ?_; intros) | (refine gs_Y ?_ ?_ <;> (intro hgd; try (simp only [Bool.not_true, Bool.not_false] at hgd))) | (refine gc_Y ?_ ?_ <;> intro _) | fail)
  rename_i b2 b4
  refine cl_Y (backward_spec pu (us.map (clV tbx)).length cu) ?_
  intro p _
  repeat' (first | (refine go_Y ?_; intros) | (refine gs_Y ?_ ?_ <;> (intro hgd; try (simp only [Bool.not_true, Bool.not_false] at hgd))) | (refine gc_Y ?_ ?_ <;> intro _) | fail)
  refine ok_rangeW (goB ⟨d, fault, 0, 0⟩) (fun q => [tpP tb b name seg vs (bkQ ⟨d, fault, 0, 0⟩ q).f, diskP b (bkQ ⟨d, fault, 0, 0⟩ q).d, A, pts b4 (.cells [.int .i64 (bkQ ⟨d, fault, 0, 0⟩ q).c].toArray 30), pts b2 (.cells [.pointer (some ⟨tb, 0, none⟩)].toArray 29)]) (fun _ => .ret) (backward1_spec tbx p (.slice pu (us.map (clV tbx)).length cu) us hn) rfl rfl takeD (R' := R) entD (fun _ => rfl) (by rfl) ?_ ?_ ?_
  · intro l pre y hp w1 R1 LP0 LP1 QB QE hB hN hE hR
    have hpl := hp.length_le
    rw [List.length_append, lz] at hpl
    obtain ⟨hok, hlo2⟩ := bkQ_ok ⟨d, fault, 0, 0⟩ hd pre
    dsimp only at hlo2
    have hgo : goB ⟨d, fault, 0, 0⟩ (pre ++ [y]) = decide ((bkQ ⟨d, fault, 0, 0⟩ (pre ++ [y])).e = 0) := rfl
    rw [bkQ_snoc] at hgo
    have hum : y.1 ∈ us := by
      have h1 : y ∈ us.zipIdx.reverse := hp.subset (by simp)
      have h2 := List.mem_reverse.1 h1
      have h3 := List.mem_map_of_mem (f := Prod.fst) h2
      rwa [List.zipIdx_map_fst] at h3
    have hun := hU.un _ hum
    rw [bkQ_snoc] at hN hR
    unfold bkStep sgY at hgo hN hR
    obtain ⟨u0, i⟩ := y
    dsimp only at hgo hN hR hun ⊢
    generalize bkQ ⟨d, fault, 0, 0⟩ pre = S at hok hlo2 hgo hN hR ⊢
    obtain ⟨D, F, c, e0⟩ := S
    dsimp only at hok hlo2 hgo hN hR ⊢
    have hv := undo_v tb b name seg vs F D u0 tbx A hun htx hok (by omega)
    unfold downT at hN hR
    generalize cutT D u0.1.s = ct at hv hgo hN hR
    obtain ⟨D', e⟩ := ct
    dsimp only at hv hgo hN hR
    have hdn := down_spec tb b name seg vs F e
    unfold ueV clV
    dsimp only
    cases t1 : decide (e = 0) with
    | true =>
      have t2 : (!decide (e = 0)) = false := by rw [t1]; rfl
      rw [t1] at hgo
      obtain rfl := of_decide_eq_true t1
      have hf1 : (if (0 : Int) = 0 ∨ (0 : Int) = 4 then F else 0) = F := if_pos (.inl rfl)
      have hc1 : (if (0 : Int) ≠ 0 then (0 : Int) else c) = c := if_neg (fun h => h rfl)
      rw [hf1] at hdn
      rw [hf1, hc1] at hN
      repeat' (first | (refine go_Y ?_; intros) | (refine gs_Y ?_ ?_ <;> (intro hgd; try (simp only [Bool.not_true, Bool.not_false] at hgd))) | (refine gc_Y ?_ ?_ <;> intro _) | fail)
      (refine hB takeD ?_)
      repeat' (first | (refine go_Y ?_; intros) | (refine gs_Y ?_ ?_ <;> (intro hgd; try (simp only [Bool.not_true, Bool.not_false] at hgd))) | (refine gc_Y ?_ ?_ <;> intro _) | fail)
      refine ok_drawL (cv := []) [2] ([pts b2 (.cells [.pointer (some ⟨tb, 0, none⟩)].toArray 29)]) (takeD) (by kernel_rfl) rfl (by decide +kernel) ?_
      repeat' (first | (refine go_Y ?_; intros) | (refine gs_Y ?_ ?_ <;> (intro hgd; try (simp only [Bool.not_true, Bool.not_false] at hgd))) | (refine gc_Y ?_ ?_ <;> intro _) | fail)
      refine clVN_Y (hv) ?_
      intro _ _
      repeat' (first | (refine go_Y ?_; intros) | (refine gs_Y ?_ ?_ <;> (intro hgd; try (simp only [Bool.not_true, Bool.not_false] at hgd))) | (refine gc_Y ?_ ?_ <;> intro _) | fail)
      refine cl_Y (hdn) ?_
      intro _ _
      repeat' (first | (refine go_Y ?_; intros) | (refine gs_Y ?_ ?_ <;> (intro hgd; try (simp only [Bool.not_true, Bool.not_false] at hgd))) | (refine gc_Y ?_ ?_ <;> intro _) | fail)
      refine hN hgo takeD entD
    | false =>
      have t2 : (!decide (e = 0)) = true := by rw [t1]; rfl
      rw [t1] at hgo
      have hc1 : (if e ≠ 0 then e else c) = e := if_pos (of_decide_eq_false t1)
      rw [hc1] at hR
      repeat' (first | (refine go_Y ?_; intros) | (refine gs_Y ?_ ?_ <;> (intro hgd; try (simp only [Bool.not_true, Bool.not_false] at hgd))) | (refine gc_Y ?_ ?_ <;> intro _) | fail)
      (refine hB takeD ?_)
      repeat' (first | (refine go_Y ?_; intros) | (refine gs_Y ?_ ?_ <;> (intro hgd; try (simp only [Bool.not_true, Bool.not_false] at hgd))) | (refine gc_Y ?_ ?_ <;> intro _) | fail)
      refine ok_drawL (cv := []) [2] ([pts b2 (.cells [.pointer (some ⟨tb, 0, none⟩)].toArray 29)]) (takeD) (by kernel_rfl) rfl (by decide +kernel) ?_
      repeat' (first | (refine go_Y ?_; intros) | (refine gs_Y ?_ ?_ <;> (intro hgd; try (simp only [Bool.not_true, Bool.not_false] at hgd))) | (refine gc_Y ?_ ?_ <;> intro _) | fail)
      refine clVN_Y (hv) ?_
      intro _ _
      repeat' (first | (refine go_Y ?_; intros) | (refine gs_Y ?_ ?_ <;> (intro hgd; try (simp only [Bool.not_true, Bool.not_false] at hgd))) | (refine gc_Y ?_ ?_ <;> intro _) | fail)
      refine cl_Y (hdn) ?_
      intro _ _
      repeat' (first | (refine go_Y ?_; intros) | (refine gs_Y ?_ ?_ <;> (intro hgd; try (simp only [Bool.not_true, Bool.not_false] at hgd))) | (refine gc_Y ?_ ?_ <;> intro _) | fail)
      refine hR hgo rfl takeD entD
  · intro dk hb
    obtain ⟨hb1, hb2⟩ := hback
    rw [hb] at hb2
    have hc0 := of_decide_eq_true hb2.symm
    rw [hc0] at hb1
    rw [eat_true hb, List.nil_append] at hb1 hc0
    obtain ⟨hok, hlo2⟩ := bkQ_ok ⟨d, fault, 0, 0⟩ hd us.zipIdx.reverse
    generalize bkQ ⟨d, fault, 0, 0⟩ us.zipIdx.reverse = S at hb1 hc0 hok hlo2 ⊢
    obtain ⟨D, F, c, e0⟩ := S
    dsimp only at hb1 hc0 hok hlo2 ⊢
    subst hc0
    have hbl : backL (us.map fun u => u.1.s).reverse fault d = (D, F, 0) := hb1
    unfold backT
    rw [hbl]
    dsimp only
    rw [if_neg (fun h => h rfl)]
    cases t3 : decide ((0 : Int) < ((us.map (clV tbx)).length : Int)) with
    | false =>
      rw [if_neg (by have := of_decide_eq_false t3; omega)]
      dsimp only
      repeat' (first | (refine go_Y ?_; intros) | (refine gs_Y ?_ ?_ <;> (intro hgd; try (simp only [Bool.not_true, Bool.not_false] at hgd))) | (refine gc_Y ?_ ?_ <;> intro _) | fail)
      refine rtM_Y (y := ()) (hrs := Tryz.results36) (hv := ?_) (hφ := ?_)
      · rfl
      · trivial
    | true =>
      rw [if_pos (by have := of_decide_eq_true t3; omega)]
      have hS := sync_spec b D hok
      unfold downT
      generalize D.sync = sy at hS ⊢
      obtain ⟨D2, e2⟩ := sy
      dsimp only at hS ⊢
      have hdn := down_spec tb b name seg vs F e2
      cases t4 : decide (e2 = 0) with
      | true =>
        have t5 : (!decide (e2 = 0)) = false := by rw [t4]; rfl
        rw [if_neg (fun h => h (of_decide_eq_true t4))]
        dsimp only
        repeat' (first | (refine go_Y ?_; intros) | (refine gs_Y ?_ ?_ <;> (intro hgd; try (simp only [Bool.not_true, Bool.not_false] at hgd))) | (refine gc_Y ?_ ?_ <;> intro _) | fail)
        refine ok_drawL (cv := []) [5] ([tpP tb b name seg vs F, pts b2 (.cells [.pointer (some ⟨tb, 0, none⟩)].toArray 29)]) (takeD) (by kernel_rfl) rfl (by decide +kernel) ?_
        repeat' (first | (refine go_Y ?_; intros) | (refine gs_Y ?_ ?_ <;> (intro hgd; try (simp only [Bool.not_true, Bool.not_false] at hgd))) | (refine gc_Y ?_ ?_ <;> intro _) | fail)
        refine clN_Y (hS) ?_
        intro _ _
        repeat' (first | (refine go_Y ?_; intros) | (refine gs_Y ?_ ?_ <;> (intro hgd; try (simp only [Bool.not_true, Bool.not_false] at hgd))) | (refine gc_Y ?_ ?_ <;> intro _) | fail)
        refine cl_Y (hdn) ?_
        intro _ _
        repeat' (first | (refine go_Y ?_; intros) | (refine gs_Y ?_ ?_ <;> (intro hgd; try (simp only [Bool.not_true, Bool.not_false] at hgd))) | (refine gc_Y ?_ ?_ <;> intro _) | fail)
        refine rtM_Y (y := ()) (hrs := Tryz.results36) (hv := ?_) (hφ := ?_)
        · rfl
        · trivial
      | false =>
        have t5 : (!decide (e2 = 0)) = true := by rw [t4]; rfl
        rw [if_pos (of_decide_eq_false t4)]
        dsimp only
        repeat' (first | (refine go_Y ?_; intros) | (refine gs_Y ?_ ?_ <;> (intro hgd; try (simp only [Bool.not_true, Bool.not_false] at hgd))) | (refine gc_Y ?_ ?_ <;> intro _) | fail)
        refine ok_drawL (cv := []) [5] ([tpP tb b name seg vs F, pts b2 (.cells [.pointer (some ⟨tb, 0, none⟩)].toArray 29)]) (takeD) (by kernel_rfl) rfl (by decide +kernel) ?_
        repeat' (first | (refine go_Y ?_; intros) | (refine gs_Y ?_ ?_ <;> (intro hgd; try (simp only [Bool.not_true, Bool.not_false] at hgd))) | (refine gc_Y ?_ ?_ <;> intro _) | fail)
        refine clN_Y (hS) ?_
        intro _ _
        repeat' (first | (refine go_Y ?_; intros) | (refine gs_Y ?_ ?_ <;> (intro hgd; try (simp only [Bool.not_true, Bool.not_false] at hgd))) | (refine gc_Y ?_ ?_ <;> intro _) | fail)
        refine cl_Y (hdn) ?_
        intro _ _
        repeat' (first | (refine go_Y ?_; intros) | (refine gs_Y ?_ ?_ <;> (intro hgd; try (simp only [Bool.not_true, Bool.not_false] at hgd))) | (refine gc_Y ?_ ?_ <;> intro _) | fail)
        refine rtM_Y (y := ()) (hrs := Tryz.results36) (hv := ?_) (hφ := ?_)
        · rfl
        · trivial
  · intro dk q hq
    obtain ⟨hb1, hb2⟩ := hback
    rw [hq] at hb1 hb2
    have hc0 := of_decide_eq_false hb2.symm
    dsimp only at hb1 hc0
    generalize bkQ ⟨d, fault, 0, 0⟩ q = S at hb1 hc0 ⊢
    obtain ⟨D, F, c, e0⟩ := S
    dsimp only at hb1 hc0 ⊢
    have hbl : backL (us.map fun u => u.1.s).reverse fault d = (D, F, c) := hb1
    unfold backT
    rw [hbl]
    dsimp only
    rw [if_pos hc0]
    repeat' (first | (refine go_Y ?_; intros) | (refine gs_Y ?_ ?_ <;> (intro hgd; try (simp only [Bool.not_true, Bool.not_false] at hgd))) | (refine gc_Y ?_ ?_ <;> intro _) | fail)
    refine rtM_Y (y := ()) (hrs := Tryz.results36) (hv := ?_) (hφ := ?_)
    · rfl
    · trivial
end Go.Proofs.YtadgdikijdmceaaGreat
set_option linter.unusedSimpArgs false
set_option linter.unusedVariables false
set_option maxRecDepth 100000
namespace Go.Proofs.YtadgdikijdmceaaGreat
open Go Go.Fx Go.Proofs Go.Pl

structure ApR where
  l : List Sg
  f : Int
  d : Dk
  n : Nat
  e : Int
def longR (s : BA) : Bool := decide ((4194304 : Int) < (s.size : Int))
def appendT (name : BA) (seg : Nat) (l : List Sg) (f : Int) (rs : List BA) (d : Dk) : ApR :=
  if f ≠ 0 then ⟨l, f, d, 0, f⟩ else
  if rs.any longR = true then ⟨l, f, d, 0, 5⟩ else
  if rs.length = 0 then ⟨l, f, d, nextS l, 0⟩ else
  if (layT name seg (2 * rs.length + 1) l [] rs d).2.1 = 4 then
    ⟨l, (backT (layT name seg (2 * rs.length + 1) l [] rs d).2.2.2 f (layT name seg (2 * rs.length + 1) l [] rs d).1).2.1, (backT (layT name seg (2 * rs.length + 1) l [] rs d).2.2.2 f (layT name seg (2 * rs.length + 1) l [] rs d).1).1, 0,
      (backT (layT name seg (2 * rs.length + 1) l [] rs d).2.2.2 f (layT name seg (2 * rs.length + 1) l [] rs d).1).2.2⟩ else
  if (layT name seg (2 * rs.length + 1) l [] rs d).2.1 ≠ 0 then ⟨l, downT f (layT name seg (2 * rs.length + 1) l [] rs d).2.1, (layT name seg (2 * rs.length + 1) l [] rs d).1, 0, (layT name seg (2 * rs.length + 1) l [] rs d).2.1⟩ else
  if (layT name seg (2 * rs.length + 1) l [] rs d).1.sync.2 ≠ 0 then ⟨l, downT f (layT name seg (2 * rs.length + 1) l [] rs d).1.sync.2, (layT name seg (2 * rs.length + 1) l [] rs d).1.sync.1, 0, (layT name seg (2 * rs.length + 1) l [] rs d).1.sync.2⟩ else
  ⟨(layT name seg (2 * rs.length + 1) l [] rs d).2.2.1, f, (layT name seg (2 * rs.length + 1) l [] rs d).1.sync.1, nextS l, 0⟩
theorem appendT_eq {name : BA} {seg : Nat} {l : List Sg} {f : Int} {rs : List BA} {d : Dk} {r : Dk × Int × List Sg × List Sg} (hf : f = 0) (h1 : rs.any longR = false) (h2 : rs.length ≠ 0) (hr : layT name seg (2 * rs.length + 1) l [] rs d = r) : appendT name seg l f rs d =
    if r.2.1 = 4 then ⟨l, (backT r.2.2.2 f r.1).2.1, (backT r.2.2.2 f r.1).1, 0, (backT r.2.2.2 f r.1).2.2⟩ else
    if r.2.1 ≠ 0 then ⟨l, downT f r.2.1, r.1, 0, r.2.1⟩ else
    if r.1.sync.2 ≠ 0 then ⟨l, downT f r.1.sync.2, r.1.sync.1, 0, r.1.sync.2⟩ else ⟨r.2.2.1, f, r.1.sync.1, nextS l, 0⟩ := by
  subst hr
  unfold appendT
  rw [if_neg (fun h => h hf), h1, if_neg (show ¬ (false = true) by decide), if_neg h2]
theorem layT_ok (name : BA) (seg : Nat) : ∀ (n : Nat) (l u : List Sg) (rs : List BA) (d : Dk), d.Ok → lenT rs ≤ 549755813888 → (layT name seg n l u rs d).1.Ok ∧ (layT name seg n l u rs d).1.loose.length ≤ d.loose.length + n ∧ (layT name seg n l u rs d).2.2.2.length ≤ u.length + n
  | 0, l, u, rs, d, h, hz => ⟨h, Nat.le_refl _, Nat.le_refl _⟩
  | n + 1, l, u, rs, d, h, hz => by
    rw [layT]
    split
    · exact ⟨h, by dsimp only; omega, by dsimp only; omega⟩
    · split
      · obtain ⟨a, b, c⟩ := layT_ok name seg n (l ++ [newS name l]) u rs d h hz
        exact ⟨a, by omega, by omega⟩
      · rename_i x _
        split
        · obtain ⟨a, b, c⟩ := layT_ok name seg n (l ++ [newS name l]) u rs d h hz
          exact ⟨a, by omega, by omega⟩
        · have h1 := lenT_split rs (seg - x.recs.length)
          have h2 := allF_size (rs.take (seg - x.recs.length))
          have h3 := append_loose d x.file (allF (rs.take (seg - x.recs.length)))
          have h4 : (d.append x.file (allF (rs.take (seg - x.recs.length)))).1.Ok := h.append (by omega)
          split
          · exact ⟨h4, by dsimp only; omega, by dsimp only; omega⟩
          · obtain ⟨a, b, c⟩ := layT_ok name seg n (l.dropLast ++ [⟨x.file, x.first, x.recs ++ rs.take (seg - x.recs.length)⟩]) (u ++ [x]) (rs.drop (seg - x.recs.length)) (d.append x.file (allF (rs.take (seg - x.recs.length)))).1 h4 (by omega)
            rw [List.length_append, List.length_singleton] at c
            exact ⟨a, by omega, by omega⟩
theorem muL_le (seg : Nat) (l : List Sg) (rs : List BA) : muL seg l rs ≤ 2 * rs.length + 1 := by
  unfold muL
  split <;> omega
theorem long_spec (s : BA) : FSpec Tryz.prog 34 [.string s] [] Unit (fun _ => True) (fun _ => .bool (longR s)) (fun _ => []) := by
  refine spec_intro [] _ Tryz.func34 rfl Tryz.ntmps34 (by rfl) (fun w0 R => ?_)
  repeat' (first | (refine go_Y ?_; intros) | (refine gs_Y ?_ ?_ <;> (intro hgd; try (simp only [Bool.not_true, Bool.not_false] at hgd))) | (refine gc_Y ?_ ?_ <;> intro _) | fail)
  (refine rt_Y (y := ()) (hrs := Tryz.results34) (hv := ?_) (hφ := ?_))
  · rfl
  · trivial
set_option maxHeartbeats 8000000 in
theorem tAppend_spec (tb b : Nat) (name : BA) (seg : Nat) (vs : Value) (fault : Int) (d : Dk) (l : List Sm) (rv : Value) (rs : List BA) (A : HProp) (h : SgsR A vs l) (hr : RcR A rv rs) (hz : name.size ≤ 1000) (hs0 : 1 ≤ seg) (hs1 : seg ≤ 65536) (hd : d.Ok)
    (hB : ∀ x ∈ l, x.s.recs.length ≤ seg ∧ lenT x.s.recs + lenT rs ≤ 900000000 ∧ x.s.file.size ≤ 1000000) (hlo : d.loose.length ≤ 1000000) (hln : l.length ≤ 1000000) (hrn : rs.length ≤ 1000000) (hnx : nextS (l.map Sm.s) + rs.length < 281474976710656) (hzr : lenT rs ≤ 900000000) :
    FSpec Tryz.prog 10 [.pointer (some ⟨tb, 0, none⟩), rv] [tpP tb b name (seg : Int) vs fault, diskP b d, A] (Value × List Sm × HProp)
      (fun y => Ext A y.2.2 ∧ SgsR y.2.2 y.1 y.2.1 ∧ y.2.1.map Sm.s = (appendT name seg (l.map Sm.s) fault rs d).l)
      (fun y => .tuple #[.int .u64 ((appendT name seg (l.map Sm.s) fault rs d).n : Int), .int .i64 (appendT name seg (l.map Sm.s) fault rs d).e])
      (fun y => [tpP tb b name (seg : Int) y.1 (appendT name seg (l.map Sm.s) fault rs d).f, diskP b (appendT name seg (l.map Sm.s) fault rs d).d, y.2.2]) := by
  have hF := tFault_spec tb b name (seg : Int) vs fault
  have hN := tNext_spec tb b name (seg : Int) vs fault l A h (by omega) (by omega)
  have hCo := containsFunc_spec (.func (.func 34) #[] #[]) rv A longR rs hr.rv (fun s _ => vspec_fn (long_spec s)) (by omega)
  obtain ⟨pr, cr, rfl, hcr, hpr⟩ := hr.rc
  have lrs : (rs.map strV).length = rs.length := by simp
  cases t1 : decide (fault = 0) with
  | false =>
    have t2 : (!decide (fault = 0)) = true := by rw [t1]; rfl
    have e1 : appendT name seg (l.map Sm.s) fault rs d = ⟨l.map Sm.s, fault, d, 0, fault⟩ := by unfold appendT; rw [if_pos (of_decide_eq_false t1)]
    rw [e1]
    dsimp only
    refine spec_intro [] _ Tryz.func10 rfl Tryz.ntmps10 (by rfl) (fun w0 R => ?_)
    repeat' (first | (refine go_Y ?_; intros) | (refine gs_Y ?_ ?_ <;> (intro hgd; try (simp only [Bool.not_true, Bool.not_false] at hgd))) | (refine gc_Y ?_ ?_ <;> intro _) | fail)
    refine cl_Y (hF) ?_
    intro _ _
    repeat' (first | (refine go_Y ?_; intros) | (refine gs_Y ?_ ?_ <;> (intro hgd; try (simp only [Bool.not_true, Bool.not_false] at hgd))) | (refine gc_Y ?_ ?_ <;> intro _) | fail)
    (refine rt_Y (y := (vs, l, A)) (hrs := Tryz.results10) (hv := ?_) (hφ := ?_))
    · rfl
    · exact ⟨.refl _, h, rfl⟩
  | true =>
    have t2 : (!decide (fault = 0)) = false := by rw [t1]; rfl
    obtain rfl := of_decide_eq_true t1
    cases t3 : rs.any longR with
    | true =>
      have e1 : appendT name seg (l.map Sm.s) 0 rs d = ⟨l.map Sm.s, 0, d, 0, 5⟩ := by unfold appendT; rw [if_neg (fun h => h rfl), if_pos t3]
      rw [e1]
      rw [t3] at hCo
      dsimp only
      refine spec_intro [] _ Tryz.func10 rfl Tryz.ntmps10 (by rfl) (fun w0 R => ?_)
      repeat' (first | (refine go_Y ?_; intros) | (refine gs_Y ?_ ?_ <;> (intro hgd; try (simp only [Bool.not_true, Bool.not_false] at hgd))) | (refine gc_Y ?_ ?_ <;> intro _) | fail)
      refine cl_Y (hF) ?_
      intro _ _
      repeat' (first | (refine go_Y ?_; intros) | (refine gs_Y ?_ ?_ <;> (intro hgd; try (simp only [Bool.not_true, Bool.not_false] at hgd))) | (refine gc_Y ?_ ?_ <;> intro _) | fail)
      refine cl_Y (hCo) ?_
      intro _ _
      repeat' (first | (refine go_Y ?_; intros) | (refine gs_Y ?_ ?_ <;> (intro hgd; try (simp only [Bool.not_true, Bool.not_false] at hgd))) | (refine gc_Y ?_ ?_ <;> intro _) | fail)
      (refine rt_Y (y := (vs, l, A)) (hrs := Tryz.results10) (hv := ?_) (hφ := ?_))
      · rfl
      · exact ⟨.refl _, h, rfl⟩
    | false =>
      rw [t3] at hCo
      cases t4 : decide (((rs.map strV).length : Int) = 0) with
      | true =>
        have e1 : appendT name seg (l.map Sm.s) 0 rs d = ⟨l.map Sm.s, 0, d, nextS (l.map Sm.s), 0⟩ := by unfold appendT; rw [if_neg (fun h => h rfl), t3, if_neg (show ¬ (false = true) by decide), if_pos (by have := of_decide_eq_true t4; omega)]
        rw [e1]
        dsimp only
        refine spec_intro [] _ Tryz.func10 rfl Tryz.ntmps10 (by rfl) (fun w0 R => ?_)
        repeat' (first | (refine go_Y ?_; intros) | (refine gs_Y ?_ ?_ <;> (intro hgd; try (simp only [Bool.not_true, Bool.not_false] at hgd))) | (refine gc_Y ?_ ?_ <;> intro _) | fail)
        refine cl_Y (hF) ?_
        intro _ _
        repeat' (first | (refine go_Y ?_; intros) | (refine gs_Y ?_ ?_ <;> (intro hgd; try (simp only [Bool.not_true, Bool.not_false] at hgd))) | (refine gc_Y ?_ ?_ <;> intro _) | fail)
        refine cl_Y (hCo) ?_
        intro _ _
        repeat' (first | (refine go_Y ?_; intros) | (refine gs_Y ?_ ?_ <;> (intro hgd; try (simp only [Bool.not_true, Bool.not_false] at hgd))) | (refine gc_Y ?_ ?_ <;> intro _) | fail)
        refine cl_Y (hN) ?_
        intro _ _
        repeat' (first | (refine go_Y ?_; intros) | (refine gs_Y ?_ ?_ <;> (intro hgd; try (simp only [Bool.not_true, Bool.not_false] at hgd))) | (refine gc_Y ?_ ?_ <;> intro _) | fail)
        (refine rt_Y (y := (vs, l, A)) (hrs := Tryz.results10) (hv := ?_) (hφ := ?_))
        · rfl
        · exact ⟨.refl _, h, rfl⟩
      | false =>
        have hr0 : rs.length ≠ 0 := by have := of_decide_eq_false t4; omega
        have hL := tlay_spec tb b name seg vs 0 d l (.slice pr (rs.map strV).length cr) rs (2 * rs.length + 1) A h hr hz hs0 hs1 hd hB (by omega) (by omega) (by omega) (muL_le _ _ _) hnx hzr
        obtain ⟨hlok, hll, hlu⟩ := layT_ok name seg (2 * rs.length + 1) (l.map Sm.s) [] rs d hd (by omega)
        generalize hlr : layT name seg (2 * rs.length + 1) (l.map Sm.s) [] rs d = lr at hL hlok hll hlu
        rw [appendT_eq rfl t3 hr0 hlr]
        obtain ⟨D, e, l', u'⟩ := lr
        dsimp only at hL hlok hll hlu ⊢
        rw [List.length_nil] at hlu
        cases t5 : decide (e = 4) with
        | true =>
          obtain rfl := of_decide_eq_true t5
          rw [if_pos rfl]
          dsimp only
          refine spec_intro [] _ Tryz.func10 rfl Tryz.ntmps10 (by rfl) (fun w0 R => ?_)
          repeat' (first | (refine go_Y ?_; intros) | (refine gs_Y ?_ ?_ <;> (intro hgd; try (simp only [Bool.not_true, Bool.not_false] at hgd))) | (refine gc_Y ?_ ?_ <;> intro _) | fail)
          refine cl_Y (hF) ?_
          intro _ _
          repeat' (first | (refine go_Y ?_; intros) | (refine gs_Y ?_ ?_ <;> (intro hgd; try (simp only [Bool.not_true, Bool.not_false] at hgd))) | (refine gc_Y ?_ ?_ <;> intro _) | fail)
          refine cl_Y (hCo) ?_
          intro _ _
          repeat' (first | (refine go_Y ?_; intros) | (refine gs_Y ?_ ?_ <;> (intro hgd; try (simp only [Bool.not_true, Bool.not_false] at hgd))) | (refine gc_Y ?_ ?_ <;> intro _) | fail)
          refine cl_Y (hN) ?_
          intro _ _
          repeat' (first | (refine go_Y ?_; intros) | (refine gs_Y ?_ ?_ <;> (intro hgd; try (simp only [Bool.not_true, Bool.not_false] at hgd))) | (refine gc_Y ?_ ?_ <;> intro _) | fail)
          refine cl_Y (hL) ?_
          rintro ⟨lv, l2, tbx, uv, us, P⟩ ⟨g1, _, g3, g4⟩
          dsimp only at g1 g3 g4
          subst g4
          have lus : (us.map fun u => u.1.s).length = us.length := by simp
          have hBk := back_spec tb b tbx name (seg : Int) vs 0 D uv us P g3 (by omega) hlok (by omega)
          dsimp only
          repeat' (first | (refine go_Y ?_; intros) | (refine gs_Y ?_ ?_ <;> (intro hgd; try (simp only [Bool.not_true, Bool.not_false] at hgd))) | (refine gc_Y ?_ ?_ <;> intro _) | fail)
          refine cl_Y (hBk) ?_
          intro _ _
          repeat' (first | (refine go_Y ?_; intros) | (refine gs_Y ?_ ?_ <;> (intro hgd; try (simp only [Bool.not_true, Bool.not_false] at hgd))) | (refine gc_Y ?_ ?_ <;> intro _) | fail)
          (refine rt_Y (y := (vs, l, P)) (hrs := Tryz.results10) (hv := ?_) (hφ := ?_))
          · rfl
          · exact ⟨g1, h.ext g1, rfl⟩
        | false =>
          rw [if_neg (of_decide_eq_false t5)]
          have hdn := down_spec tb b name (seg : Int) vs 0 e
          cases t6 : decide (e = 0) with
          | false =>
            have t7 : (!decide (e = 0)) = true := by rw [t6]; rfl
            rw [if_pos (of_decide_eq_false t6)]
            dsimp only
            unfold downT
            refine spec_intro [] _ Tryz.func10 rfl Tryz.ntmps10 (by rfl) (fun w0 R => ?_)
            repeat' (first | (refine go_Y ?_; intros) | (refine gs_Y ?_ ?_ <;> (intro hgd; try (simp only [Bool.not_true, Bool.not_false] at hgd))) | (refine gc_Y ?_ ?_ <;> intro _) | fail)
            refine cl_Y (hF) ?_
            intro _ _
            repeat' (first | (refine go_Y ?_; intros) | (refine gs_Y ?_ ?_ <;> (intro hgd; try (simp only [Bool.not_true, Bool.not_false] at hgd))) | (refine gc_Y ?_ ?_ <;> intro _) | fail)
            refine cl_Y (hCo) ?_
            intro _ _
            repeat' (first | (refine go_Y ?_; intros) | (refine gs_Y ?_ ?_ <;> (intro hgd; try (simp only [Bool.not_true, Bool.not_false] at hgd))) | (refine gc_Y ?_ ?_ <;> intro _) | fail)
            refine cl_Y (hN) ?_
            intro _ _
            repeat' (first | (refine go_Y ?_; intros) | (refine gs_Y ?_ ?_ <;> (intro hgd; try (simp only [Bool.not_true, Bool.not_false] at hgd))) | (refine gc_Y ?_ ?_ <;> intro _) | fail)
            refine cl_Y (hL) ?_
            rintro ⟨lv, l2, tbx, uv, us, P⟩ ⟨g1, _, g3, g4⟩
            dsimp only at g1 g3 g4
            dsimp only
            repeat' (first | (refine go_Y ?_; intros) | (refine gs_Y ?_ ?_ <;> (intro hgd; try (simp only [Bool.not_true, Bool.not_false] at hgd))) | (refine gc_Y ?_ ?_ <;> intro _) | fail)
            refine cl_Y (hdn) ?_
            intro _ _
            repeat' (first | (refine go_Y ?_; intros) | (refine gs_Y ?_ ?_ <;> (intro hgd; try (simp only [Bool.not_true, Bool.not_false] at hgd))) | (refine gc_Y ?_ ?_ <;> intro _) | fail)
            (refine rt_Y (y := (vs, l, P)) (hrs := Tryz.results10) (hv := ?_) (hφ := ?_))
            · rfl
            · exact ⟨g1, h.ext g1, rfl⟩
          | true =>
            have t7 : (!decide (e = 0)) = false := by rw [t6]; rfl
            obtain rfl := of_decide_eq_true t6
            rw [if_neg (fun h => h rfl)]
            rw [if_pos (.inl rfl)] at hdn
            have hS := sync_spec b D hlok
            unfold downT
            generalize D.sync = sy at hS ⊢
            obtain ⟨D2, e2⟩ := sy
            dsimp only at hS ⊢
            have hdn2 := down_spec tb b name (seg : Int) vs 0 e2
            cases t8 : decide (e2 = 0) with
            | false =>
              have t9 : (!decide (e2 = 0)) = true := by rw [t8]; rfl
              rw [if_pos (of_decide_eq_false t8)]
              dsimp only
              refine spec_intro [] _ Tryz.func10 rfl Tryz.ntmps10 (by rfl) (fun w0 R => ?_)
              repeat' (first | (refine go_Y ?_; intros) | (refine gs_Y ?_ ?_ <;> (intro hgd; try (simp only [Bool.not_true, Bool.not_false] at hgd))) | (refine gc_Y ?_ ?_ <;> intro _) | fail)
              refine cl_Y (hF) ?_
              intro _ _
              repeat' (first | (refine go_Y ?_; intros) | (refine gs_Y ?_ ?_ <;> (intro hgd; try (simp only [Bool.not_true, Bool.not_false] at hgd))) | (refine gc_Y ?_ ?_ <;> intro _) | fail)
              refine cl_Y (hCo) ?_
              intro _ _
              repeat' (first | (refine go_Y ?_; intros) | (refine gs_Y ?_ ?_ <;> (intro hgd; try (simp only [Bool.not_true, Bool.not_false] at hgd))) | (refine gc_Y ?_ ?_ <;> intro _) | fail)
              refine cl_Y (hN) ?_
              intro _ _
              repeat' (first | (refine go_Y ?_; intros) | (refine gs_Y ?_ ?_ <;> (intro hgd; try (simp only [Bool.not_true, Bool.not_false] at hgd))) | (refine gc_Y ?_ ?_ <;> intro _) | fail)
              refine cl_Y (hL) ?_
              rintro ⟨lv, l2, tbx, uv, us, P⟩ ⟨g1, _, g3, g4⟩
              dsimp only at g1 g3 g4
              dsimp only
              repeat' (first | (refine go_Y ?_; intros) | (refine gs_Y ?_ ?_ <;> (intro hgd; try (simp only [Bool.not_true, Bool.not_false] at hgd))) | (refine gc_Y ?_ ?_ <;> intro _) | fail)
              refine cl_Y (hdn) ?_
              intro _ _
              repeat' (first | (refine go_Y ?_; intros) | (refine gs_Y ?_ ?_ <;> (intro hgd; try (simp only [Bool.not_true, Bool.not_false] at hgd))) | (refine gc_Y ?_ ?_ <;> intro _) | fail)
              refine cl_Y (hS) ?_
              intro _ _
              repeat' (first | (refine go_Y ?_; intros) | (refine gs_Y ?_ ?_ <;> (intro hgd; try (simp only [Bool.not_true, Bool.not_false] at hgd))) | (refine gc_Y ?_ ?_ <;> intro _) | fail)
              refine cl_Y (hdn2) ?_
              intro _ _
              repeat' (first | (refine go_Y ?_; intros) | (refine gs_Y ?_ ?_ <;> (intro hgd; try (simp only [Bool.not_true, Bool.not_false] at hgd))) | (refine gc_Y ?_ ?_ <;> intro _) | fail)
              (refine rt_Y (y := (vs, l, P)) (hrs := Tryz.results10) (hv := ?_) (hφ := ?_))
              · rfl
              · exact ⟨g1, h.ext g1, rfl⟩
            | true =>
              have t9 : (!decide (e2 = 0)) = false := by rw [t8]; rfl
              obtain rfl := of_decide_eq_true t8
              rw [if_neg (fun h => h rfl)]
              rw [if_pos (.inl rfl)] at hdn2
              dsimp only
              refine spec_intro [] _ Tryz.func10 rfl Tryz.ntmps10 (by rfl) (fun w0 R => ?_)
              repeat' (first | (refine go_Y ?_; intros) | (refine gs_Y ?_ ?_ <;> (intro hgd; try (simp only [Bool.not_true, Bool.not_false] at hgd))) | (refine gc_Y ?_ ?_ <;> intro _) | fail)
              refine cl_Y (hF) ?_
              intro _ _
              repeat' (first | (refine go_Y ?_; intros) | (refine gs_Y ?_ ?_ <;> (intro hgd; try (simp only [Bool.not_true, Bool.not_false] at hgd))) | (refine gc_Y ?_ ?_ <;> intro _) | fail)
              refine cl_Y (hCo) ?_
              intro _ _
              repeat' (first | (refine go_Y ?_; intros) | (refine gs_Y ?_ ?_ <;> (intro hgd; try (simp only [Bool.not_true, Bool.not_false] at hgd))) | (refine gc_Y ?_ ?_ <;> intro _) | fail)
              refine cl_Y (hN) ?_
              intro _ _
              repeat' (first | (refine go_Y ?_; intros) | (refine gs_Y ?_ ?_ <;> (intro hgd; try (simp only [Bool.not_true, Bool.not_false] at hgd))) | (refine gc_Y ?_ ?_ <;> intro _) | fail)
              refine cl_Y (hL) ?_
              rintro ⟨lv, l2, tbx, uv, us, P⟩ ⟨g1, g2, g3, g4⟩
              dsimp only at g1 g2 g3 g4
              obtain ⟨g5, g6⟩ := g2 rfl
              obtain ⟨pl, cl, rfl, hcl⟩ := g5.cp
              dsimp only
              repeat' (first | (refine go_Y ?_; intros) | (refine gs_Y ?_ ?_ <;> (intro hgd; try (simp only [Bool.not_true, Bool.not_false] at hgd))) | (refine gc_Y ?_ ?_ <;> intro _) | fail)
              refine cl_Y (hdn) ?_
              intro _ _
              repeat' (first | (refine go_Y ?_; intros) | (refine gs_Y ?_ ?_ <;> (intro hgd; try (simp only [Bool.not_true, Bool.not_false] at hgd))) | (refine gc_Y ?_ ?_ <;> intro _) | fail)
              refine cl_Y (hS) ?_
              intro _ _
              repeat' (first | (refine go_Y ?_; intros) | (refine gs_Y ?_ ?_ <;> (intro hgd; try (simp only [Bool.not_true, Bool.not_false] at hgd))) | (refine gc_Y ?_ ?_ <;> intro _) | fail)
              refine cl_Y (hdn2) ?_
              intro _ _
              repeat' (first | (refine go_Y ?_; intros) | (refine gs_Y ?_ ?_ <;> (intro hgd; try (simp only [Bool.not_true, Bool.not_false] at hgd))) | (refine gc_Y ?_ ?_ <;> intro _) | fail)
              (refine rt_Y (y := (.slice pl (l2.map sgV).length cl, l2, P)) (hrs := Tryz.results10) (hv := ?_) (hφ := ?_))
              · rfl
              · exact ⟨g1, g5, g6⟩
end Go.Proofs.YtadgdikijdmceaaGreat
