import Derived.Test.YtadgdikijdmceaaGreatTqW
set_option linter.unusedSimpArgs false
set_option linter.unusedVariables false
set_option maxRecDepth 100000
namespace Go.Proofs.YtadgdikijdmceaaGreat
open Go Go.Fx Go.Proofs Go.Pl

def nT : BA := ⟨#[116]⟩
theorem may_nT : mayN nT = true := by decide +kernel
theorem allR_mem {l : List Sg} {x : Sg} (h : x ∈ l) : lenT x.recs ≤ lenT (allR l) ∧ x.recs.length ≤ (allR l).length := by
  induction l with
  | nil => simp at h
  | cons y l ih =>
    rw [allR_cons, lenT_cat, List.length_append]
    rcases List.mem_cons.1 h with rfl | h
    · omega
    · have := ih h; omega
theorem Tw.count {name : BA} {seg f : Nat} {l : List Sg} (h : Tw name seg f l) (hs : 1 ≤ seg) : l.length ≤ (allR l).length := by
  rcases h.sq with ⟨rfl, _⟩ | ⟨l0, x, rfl, hq, hx⟩
  · exact Nat.zero_le _
  · rw [allR_app, allR_one, List.length_append, List.length_append, hq.fl.recs, List.length_singleton]
    have h1 : l0.length ≤ seg * l0.length := Nat.le_mul_of_pos_left _ (by omega)
    have h2 : x.recs.length ≠ 0 := fun e => hx (List.eq_nil_of_length_eq_zero e)
    omega
theorem Tw.bound {name : BA} {seg f : Nat} {l : List Sg} (h : Tw name seg f l) {x : Sg} (hx : x ∈ l) : x.recs.length ≤ seg ∧ x.first ≤ nextS l ∧ x.file = fileT name x.first := by
  rcases h.sq with ⟨rfl, _⟩ | ⟨l0, y, rfl, hq, hy⟩
  · simp at hx
  · have hn : nextS (l0 ++ [y]) = y.first + y.recs.length := by unfold nextS; rw [List.getLast?_concat]
    rw [hn]
    rcases List.mem_append.1 hx with hx | hx
    · obtain ⟨a, b, c, d⟩ := hq.fl.mem x hx
      have := hq.first
      exact ⟨by omega, by omega, a⟩
    · rw [List.mem_singleton.1 hx]
      exact ⟨hq.le, by omega, hq.file⟩
theorem Firm.names {name : BA} {seg f : Nat} {l : List Sg} {d : Dk} (hm : mayN name = true) (hz : name.size ≤ 32) (hs : 1 ≤ seg) (hd : Firm d (fsS l)) (h : Tw name seg f l) : (∀ x ∈ d.files.map (·.1), mayN x = true) ∧ d.files.length = l.length := by
  have hnm := h.nm hs
  have hp := hd.eq.perm hd.ok.nd (by rw [fsS_keys]; exact hnm.nodup)
  rw [fsS_keys] at hp
  refine ⟨fun x hx => ?_, ?_⟩
  · obtain ⟨y, hy, rfl⟩ := List.mem_map.1 (hp.mem_iff.1 hx)
    rw [hnm.file y hy]
    exact mayN_fileT name _ hm hz
  · have := hp.length_eq
    rw [List.length_map, List.length_map] at this
    exact this
theorem read_main {name : BA} {seg f : Nat} {l : List Sg} {d : Dk} {all q : List BA} (hm : mayN name = true) (hz : name.size ≤ 32) (hs : 1 ≤ seg) (hd : Firm d (fsS l)) (h : Tw name seg f l) (hq : all = q ++ allR l) (hql : q.length = f) (off : Nat) (most : Int) : readS d l off most = (rReadL f all off most, rReadE f all off) := by
  have hn := h.next
  have hal : all.length = nextS l := by rw [hq, List.length_append, hn]; omega
  unfold readS rReadL rReadE
  rw [h.first, ← hal]
  split
  · rfl
  · rename_i h1
    rw [readL_ok hm hz hd.still l f [] h.cn (fun x hx => ⟨by rw [hd.eq]; exact fget_fsS (h.nm hs).nodup hx, allOk_mem h.ok hx⟩), List.nil_append, List.length_nil, hq]
    have e1 : (q ++ allR l).drop off = (allR l).drop (off - f) := by rw [List.drop_append, List.drop_of_length_le (by omega), List.nil_append, hql]
    rw [e1]
    simp

structure PlS where
  tb : Nat
  vs : Value
  l : List Sm
  d : Dk
  f : Nat
  all : List BA
  rv : V1s
  P : HProp
structure PlOk (A : HProp) (seg : Nat) (s : PlS) : Prop where
  ext : Ext A s.P
  sg : SgsR s.P s.vs s.l
  tw : Tw nT seg s.f (s.l.map Sm.s)
  firm : Firm s.d (fsS (s.l.map Sm.s))
  pre : ∃ q, s.all = q ++ allR (s.l.map Sm.s) ∧ q.length = s.f
  w : wtL s.all ≤ 16384
abbrev plP (b rb seg : Nat) (s : PlS) : List HProp := [tpP s.tb b nT (seg : Int) s.vs 0, diskP b s.d, rtP rb s.rv.1 s.f seg, rwS s.rv.1 s.all, s.P]
theorem PlOk.facts {A : HProp} {seg : Nat} {s : PlS} (h : PlOk A seg s) (hs : 1 ≤ seg) (hs1 : seg ≤ 65536) : nextS (s.l.map Sm.s) = s.all.length ∧ s.all.length ≤ 1000 ∧ s.l.length ≤ 1000 ∧ s.f ≤ s.all.length ∧ lenT s.all ≤ 16384 ∧ lenT (allR (s.l.map Sm.s)) ≤ 16384 ∧
    (∀ x ∈ s.l, SgB x.s ∧ x.s.recs.length ≤ seg ∧ lenT x.s.recs ≤ 16384 ∧ x.s.file.size = 14) := by
  obtain ⟨q, h1, h2⟩ := h.pre
  have hn := h.tw.next
  have hw := h.w
  have hwl := wtL_lenT s.all
  have hl : s.all.length ≤ 1000 := by unfold wtL at hw; omega
  have e1 : nextS (s.l.map Sm.s) = s.all.length := by rw [hn, h1, List.length_append]; omega
  have e2 := congrArg List.length h1
  rw [List.length_append] at e2
  have hc := h.tw.count hs
  rw [List.length_map] at hc
  have e3 : lenT (allR (s.l.map Sm.s)) ≤ lenT s.all := by rw [h1, lenT_cat]; omega
  refine ⟨e1, hl, by omega, by omega, by omega, by omega, fun x hx => ?_⟩
  have hm := List.mem_map_of_mem (f := Sm.s) hx
  obtain ⟨a, b, c⟩ := h.tw.bound hm
  obtain ⟨p, r⟩ := allR_mem hm
  have hz : x.s.file.size = 14 := by rw [c, fileT_size]; rfl
  exact ⟨⟨by omega, by omega, by omega, by omega⟩, a, by omega, hz⟩
theorem PlOk.grow {A : HProp} {seg : Nat} {s : PlS} (h : PlOk A seg s) {P : HProp} (g : Ext s.P P) : PlOk A seg { s with P := P } := ⟨h.ext.trans g, h.sg.ext g, h.tw, h.firm, h.pre, h.w⟩
end Go.Proofs.YtadgdikijdmceaaGreat
