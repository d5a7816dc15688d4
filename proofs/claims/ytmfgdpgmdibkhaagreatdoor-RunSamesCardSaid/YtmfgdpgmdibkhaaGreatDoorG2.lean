/- RunSames (cabinetrylaw21): a part of the proof that the law's function answers true, whatever it is handed; its conditions are those of the given card. -/
import Derived.Test.YtmfgdpgmdibkhaaGreatDoorG1
import Derived.KernelRfl
import Derived.Sort.KeysCollected
import Derived.Sort.Grow
section
namespace Go.Abs
variable {X : Ctx} {α : Type}
structure Sit (X : Ctx) where
  N : Nat
  ops : Array Oper
  rnd : Bool
  rs : List (Nat × Nat)
  Wt : T Nat
  l : List DItem
  tm : T AV
  A : AW
  D : List ADef
  evs : List Ev
  L : Lvl
  m : Nat
  tmf : T AV
  Af : AW
  Df : List ADef
  σ₀ : Sig
  w₀ : World
  a₀ : Act
  C : Chk X N ops rs Wt l
  P : Plan X N ops rnd l tm A D [] [] 0 evs L m tmf Af Df
  hw : WRel X σ₀ A w₀
  hA : AR σ₀ tm D N a₀
namespace Sit
variable (S : Sit X)
theorem pw : S.l.Pairwise (fun d d' => d.num ≠ d'.num) := pairwise_of_split fun pre d post hl e he => (S.C.one pre d post hl).new e he
theorem nodup : (S.l.map (·.num)).Nodup := by
  rw [List.Nodup, List.pairwise_map]; exact S.pw
theorem uniq {e e' : Ev} (he : e ∈ S.evs) (he' : e' ∈ S.evs) (h : e.d.num = e'.d.num) : e = e' := by
  have hp : S.evs.Pairwise (fun e e' => e.d.num = e'.d.num → e = e') := by
    have := S.pw
    rw [← S.P.map, List.pairwise_map] at this
    exact this.imp fun hne h => absurd h hne
  exact pairwise_all (fun _ _ => rfl) (fun _ _ h h' => (h h'.symm).symm) hp e he e' he' h
theorem mem_d {e : Ev} (he : e ∈ S.evs) : e.d ∈ S.l := by rw [← S.P.map]; exact List.mem_map_of_mem he
theorem dstU {e e' : Ev} (he : e ∈ S.evs) (he' : e' ∈ S.evs) {x : Ix} (h : e.d.it.dst = some x) (h' : e'.d.it.dst = some x) : e.d.num = e'.d.num := by
  have h1 := S.C.wr _ (S.mem_d he) x h
  have h2 := S.C.wr _ (S.mem_d he') x h'
  rw [h1] at h2; exact Option.some.inj h2
theorem isEff_kd {e : Ev} (h : e.kd.isEff = true) : e.kd = .eff := by
  cases hk : e.kd <;> rw [hk] at h <;> first | rfl | cases h
theorem eff_op {e : Ev} (he : e ∈ S.evs) (h : e.kd.isEff = true) : e.d.it.op.eff = true := by
  have := S.P.ok e he
  rw [isEff_kd h] at this
  exact this.2.1
theorem split {e : Ev} (he : e ∈ S.evs) : ∃ pre post, S.evs = pre ++ e :: post ∧ Chk1 S.rs S.Wt S.l (pre.map (·.d)) e.d := by
  obtain ⟨pre, post, h⟩ := List.append_of_mem he
  refine ⟨pre, post, h, S.C.one _ e.d (post.map (·.d)) ?_⟩
  rw [← S.P.map, h]; simp
theorem pre_mem {pre post : List Ev} {e e' : Ev} (h : S.evs = pre ++ e :: post) (he' : e' ∈ pre) : e' ∈ S.evs := by rw [h]; simp [he']
theorem effU {e e' : Ev} (he : e ∈ S.evs) (he' : e' ∈ S.evs) (hk : e.kd.isEff = true) (hk' : e'.kd.isEff = true) (h : e.lv = e'.lv) : e = e' := by
  have hp : S.evs.Pairwise (fun e e' => e.kd.isEff = true → e'.kd.isEff = true → e.lv = e'.lv → e = e') :=
    pairwise_of_split fun pre d post hl x hx hkx _ hlv => by
      have := (S.P.lvs.at_ hl).2.1 x hx hkx
      omega
  exact pairwise_all (fun _ _ _ _ => rfl) (fun _ _ h h1 h2 h3 => (h h2 h1 h3.symm).symm) hp e he e' he' hk hk' h
theorem eff_pre {e e' : Ev} {pre post : List Ev} (hs : S.evs = pre ++ e' :: post) (he : e ∈ S.evs) (hk : e.kd.isEff = true) (h : e.lv < e'.lv) : e ∈ pre := by
  obtain ⟨x, hx, hkx, hlx⟩ := (S.P.lvs.at_ hs).1 e.lv (Nat.zero_le _) h
  have := S.effU he (S.pre_mem hs hx) hk hkx hlx.symm
  subst this; exact hx
theorem fl_born : ∀ c, c ≤ S.m → ∀ z ∈ S.L.fl c, ∃ e ∈ S.evs, e.isBorn z ∧ e.lv ≤ c := by
  intro c
  induction c with
  | zero =>
    intro _ z hz
    rcases S.P.fl0 z hz with h | ⟨e, he, hb, hl⟩
    · cases h
    · exact ⟨e, he, hb, by omega⟩
  | succ c ih =>
    intro hc z hz
    obtain ⟨e, he, hk, hl⟩ := S.P.lvs.all c (Nat.zero_le _) hc
    have hok := S.P.ok e he
    rw [isEff_kd hk] at hok
    obtain ⟨_, _, fl', Aa, A', hab, _, _, _, _, h8⟩ := hok
    rw [hl] at hab h8
    rcases h8 z hz with h | ⟨e', he', hb, hl'⟩
    · obtain ⟨e', he', hb, hl'⟩ := ih (by omega) z (hab.sub z h)
      exact ⟨e', he', hb, by omega⟩
    · exact ⟨e', he', hb, by omega⟩
structure Inv (inL : Nat → Prop) (b : Nat) (σ : Sig) (a : Act) (w : World) : Prop where
  le : Sig.le S.σ₀ σ
  rel : WRel X σ (S.L.W b) w
  kp : Keeps S.σ₀ S.A S.w₀ σ (S.L.W b) w
  df : DRel σ (S.L.D b) a.defers
  ti : TInv S.N S.evs S.a₀.tmps inL σ a.tmps
  bm : b ≤ S.m
  lev : ∀ e ∈ S.evs, e.kd.isEff = true → (inL e.d.num ↔ e.lv < b)
  fl : ∀ z ∈ S.L.fl b, inL z.1 → Float X σ (S.L.W b) w z.2.1 z.2.2
  fd : ∀ z ∈ S.L.fl b, ∀ z' ∈ S.L.fl b, inL z.1 → inL z'.1 → z.1 ≠ z'.1 → σ z.2.1 ≠ σ z'.2.1
  un : ∀ e ∈ S.evs, ∀ x o, e.kd = .born x o → e.lv ≤ b → ¬ inL e.d.num → σ x = none
  nb : ∀ e ∈ S.evs, ∀ x o, e.kd = .born x o → e.lv ≤ b → S.A.next.val ≤ x.val ∧ x.val < (S.L.W b).next.val
  ds : ∀ e ∈ S.evs, ∀ e' ∈ S.evs, ∀ x o x' o', e.kd = .born x o → e'.kd = .born x' o' → e.lv ≤ b → e'.lv ≤ b → e.d.num ≠ e'.d.num → x ≠ x'
  dn : ∀ e ∈ S.evs, inL e.d.num → ∀ j, (lookN e.d.num S.rs).testBit j = true → inL j
theorem start {inL : Nat → Prop} (h0 : ∀ j, ¬ inL j) : S.Inv inL 0 S.σ₀ S.a₀ { S.w₀ with drawn := S.w₀.drawn + 1 } := by
  have hE := Ext.drawn S.hw (S.w₀.drawn + 1)
  refine ⟨Sig.le_refl _, hE.rel.of_heap S.P.heap S.P.nx1, hE.keeps.more S.P.heap S.P.nx1, ?_, ⟨S.hA.sz, fun _ _ => rfl, fun e _ hi => absurd hi (h0 _)⟩, Nat.zero_le _, ?_, fun z _ hi => absurd hi (h0 _),
    fun z _ z' _ hi => absurd hi (h0 _), ?_, ?_, ?_, fun e _ hi => absurd hi (h0 _)⟩
  · rw [S.P.dd]; exact S.hA.df
  · intro e he hk
    exact ⟨fun hi => absurd hi (h0 _), fun h => absurd h (Nat.not_lt_zero _)⟩
  · intro e he x o hk hl _
    obtain ⟨_, h2, _⟩ := S.P.born1 e he x o hk
    exact S.hw.fresh x (h2 (by omega))
  · intro e he x o hk hl
    obtain ⟨h1, h2, _⟩ := S.P.born1 e he x o hk
    have hz : e.lv = 0 := by omega
    rw [hz] at h1
    exact ⟨h2 hz, h1⟩
  · intro e he e' he' x o x' o' hk hk' hl hl' hne hxx
    have hp := pairwise_all (R := fun e e' => e.d.num ≠ e'.d.num → (BornLt e e' ∨ BornLt e' e)) (fun _ h => absurd rfl h) (fun _ _ h h' => (h (Ne.symm h')).symm) (S.P.bornP.imp fun h _ => .inl h) e he e' he' hne
    rcases hp with h | h
    · have := h x o x' o' hk hk' (by omega); subst hxx; omega
    · have := h x' o' x o hk' hk (by omega); subst hxx; omega
variable {S}
theorem good {inL : Nat → Prop} {b : Nat} {σ : Sig} {a : Act} {w : World} (I : S.Inv inL b σ a w) {e : Ev} (he : e ∈ S.evs) (hr : ∀ j, (lookN e.d.num S.rs).testBit j = true → inL j) (hn : ¬ inL e.d.num) :
    Good (fun t => t ∈ e.d.it.tmps) σ e.tm a.tmps := by
  obtain ⟨pre, post, hs, hc⟩ := S.split he
  intro x v hx hv
  rcases S.P.tms.at_ hs x v hv with ⟨e', he', hd, rfl⟩ | ⟨h1, h2⟩
  · have hm := S.pre_mem hs he'
    have hw := S.C.wr _ (S.mem_d hm) x hd
    have hne : e'.d.num ≠ e.d.num := hc.new _ (List.mem_map_of_mem he')
    rcases hc.wr x hx _ hw with h | h
    · exact absurd h hne
    · exact I.ti.t2 e' hm (hr _ h) x hd
  · obtain ⟨v', h3, h4⟩ := S.hA.tr x v h2
    refine ⟨v', ?_, h4.mono I.le⟩
    rw [I.ti.t1 x ?_]; exact h3
    intro e' he' hi hd
    have hw := S.C.wr _ (S.mem_d he') x hd
    rcases hc.wr x hx _ hw with h | h
    · rw [h] at hi; exact hn hi
    · obtain ⟨d', hd', hnum⟩ := hc.done _ h
      obtain ⟨e'', he'', rfl⟩ := List.mem_map.1 hd'
      have := S.uniq (S.pre_mem hs he'') he' hnum
      subst this
      exact h1 _ he'' hd
theorem lv_le {inL : Nat → Prop} {b : Nat} {σ : Sig} {a : Act} {w : World} (I : S.Inv inL b σ a w) {e : Ev} (he : e ∈ S.evs) (hr : ∀ j, (lookN e.d.num S.rs).testBit j = true → inL j) : e.lv ≤ b := by
  obtain ⟨pre, post, hs, hc⟩ := S.split he
  refine Nat.le_of_not_lt fun hlt => ?_
  obtain ⟨x, hx, hkx, hlx⟩ := (S.P.lvs.at_ hs).1 b (Nat.zero_le _) hlt
  have hm := S.pre_mem hs hx
  have := (I.lev x hm hkx).1 (hr _ (hc.effs _ (List.mem_map_of_mem hx) (S.eff_op hm hkx)))
  omega
theorem hi_ge {inL : Nat → Prop} {b : Nat} {σ : Sig} {a : Act} {w : World} (I : S.Inv inL b σ a w) {e : Ev} (he : e ∈ S.evs) (hR : e.d.it.op.isR = true) (hn : ¬ inL e.d.num) : b ≤ e.d.hi := by
  refine Nat.le_of_not_lt fun hlt => ?_
  obtain ⟨x, hx, hkx, hlx⟩ := S.P.lvs.all e.d.hi (Nat.zero_le _) (Nat.lt_of_lt_of_le hlt I.bm)
  have hin := (I.lev x hx hkx).2 (by omega)
  obtain ⟨pre, post, hs, hc⟩ := S.split hx
  have h3 := (S.P.lvs.at_ hs).2.2
  have hle : (pre.filter (·.kd.isEff)).length ≤ ((pre.map (·.d)).filter (·.it.op.eff)).length := by
    have hpm : ∀ y ∈ pre, y ∈ S.evs := fun y hy => S.pre_mem hs hy
    clear h3 hc hs
    induction pre with
    | nil => simp
    | cons y pre ih =>
      have ih := ih fun z hz => hpm z (List.mem_cons_of_mem _ hz)
      have hy := hpm y (List.mem_cons_self ..)
      simp only [List.map_cons, List.filter_cons]
      cases hk : y.kd.isEff with
      | true => rw [if_pos rfl, if_pos (S.eff_op hy hk)]; simp; omega
      | false =>
        simp only [Bool.false_eq_true, if_false]
        split
        · simp; omega
        · exact ih
  have := hc.hi (S.eff_op hx hkx) e.d (S.mem_d he) hR (by omega)
  exact hn (I.dn x hx hin _ this)
theorem quiet {inL inL' : Nat → Prop} {b : Nat} {σ : Sig} {a : Act} {w : World} (I : S.Inv inL b σ a w) {e : Ev} (he : e ∈ S.evs) (hr : ∀ j, (lookN e.d.num S.rs).testBit j = true → inL j)
    (hL : ∀ j, inL' j ↔ inL j ∨ j = e.d.num) (hk : e.kd = .skip ∨ e.kd = .rd) {v : Value} (hv : VRel σ e.v v) : S.Inv inL' b σ (a.put e.o.dst v) w := by
  have hI := (S.P.oper e he).2
  have hbn : ∀ e' ∈ S.evs, ∀ x o, e'.kd = .born x o → inL' e'.d.num → inL e'.d.num := fun e' he' x o hk' hi => by
    rcases (hL _).1 hi with h | h
    · exact h
    · have := S.uniq he' he h
      subst this
      rcases hk with hk | hk <;> rw [hk] at hk' <;> cases hk'
  have hfl : ∀ z ∈ S.L.fl b, inL' z.1 → inL z.1 := fun z hz hi => by
    obtain ⟨e', he', ⟨hb1, hb2⟩, _⟩ := S.fl_born b I.bm z hz
    rw [← hb1] at hi ⊢
    exact hbn e' he' _ _ hb2 hi
  refine ⟨I.le, I.rel, I.kp, ?_, I.ti.put (Sig.le_refl _) he (fun e' he' h => S.uniq he' he h) (fun e' he' x h h' => S.dstU he' he h h') hI.dst hv hL rfl, I.bm, fun e' he' hk' => ?_, fun z hz hi => I.fl z hz (hfl z hz hi),
    fun z hz z' hz' hi hi' => I.fd z hz z' hz' (hfl z hz hi) (hfl z' hz' hi'), fun e' he' x o hk' hl hi => I.un e' he' x o hk' hl fun h => hi ((hL _).2 (.inl h)), I.nb, I.ds, fun e' he' hi j hj => (hL _).2 ?_⟩
  · have : (a.put e.o.dst v).defers = a.defers := by unfold Act.put; split <;> rfl
    rw [this]; exact I.df
  · rw [hL, ← I.lev e' he' hk']
    refine ⟨fun h => h.elim id fun h => ?_, .inl⟩
    have := S.uniq he' he h
    subst this
    rcases hk with hk | hk <;> rw [hk] at hk' <;> cases hk'
  · rcases (hL _).1 hi with h | h
    · exact .inl (I.dn e' he' h j hj)
    · rw [h] at hj; exact .inl (hr j hj)
theorem birth {inL inL' : Nat → Prop} {b : Nat} {σ : Sig} {a : Act} {w : World} (I : S.Inv inL b σ a w) {e : Ev} (he : e ∈ S.evs) (hr : ∀ j, (lookN e.d.num S.rs).testBit j = true → inL j) (hn : ¬ inL e.d.num)
    (hL : ∀ j, inL' j ↔ inL j ∨ j = e.d.num) {x : Ix} {ob : AObj} (hk : e.kd = .born x ob) {O : Obj} (hO : ORel X σ ob O) {v : Value} (hv : VRel (σ.put x w.heap.size (Obj.ncells O)) e.v v) :
    S.Inv inL' b (σ.put x w.heap.size (Obj.ncells O)) (a.put e.o.dst v) { w with heap := w.heap.push O } := by
  have hI := (S.P.oper e he).2
  have hlv := lv_le I he hr
  have hx0 := I.un e he x ob hk hlv hn
  obtain ⟨hx1, hx2⟩ := I.nb e he x ob hk hlv
  obtain ⟨hle, hrel, hflt, hold⟩ := born_float I.rel hx0 hx2 hO (fun g hg h => by subst h; rw [I.rel.glob g hg] at hx0; cases hx0)
  have hbig : ∀ (z : Ix) (q : AObj), Float X σ (S.L.W b) w z q → z ≠ x ∧ ∃ c, σ z = some c ∧ c < w.heap.size := fun z q hz => by
    obtain ⟨c, Q, h1, h2, _, _⟩ := hz.at_
    exact ⟨(fun h => by rw [h, hx0] at h1; cases h1), c, h1, (Array.getElem?_eq_some_iff.1 h2).1⟩
  have hfl : ∀ z ∈ S.L.fl b, inL' z.1 → inL z.1 ∨ z = (e.d.num, x, ob) := fun z hz hi => by
    rcases (hL _).1 hi with h | h
    · exact .inl h
    · obtain ⟨e', he', ⟨hb1, hb2⟩, _⟩ := S.fl_born b I.bm z hz
      have := S.uniq he' he (hb1.trans h)
      subst this
      rw [hk] at hb2
      obtain ⟨z1, z2, z3⟩ := z
      simp only [Kd.born.injEq] at hb2
      obtain ⟨rfl, rfl⟩ := hb2
      simp only at h
      subst h
      exact .inr rfl
  refine ⟨Sig.le_trans I.le hle, hrel, ?_, ?_, I.ti.put hle he (fun e' he' h => S.uniq he' he h) (fun e' he' y h h' => S.dstU he' he h h') hI.dst hv hL rfl, I.bm, fun e' he' hk' => ?_, fun z hz hi => ?_,
    fun z hz z' hz' hi hi' hne => ?_, fun e' he' y o hk' hl hi => ?_, I.nb, I.ds, fun e' he' hi j hj => (hL _).2 ?_⟩
  · have K := I.kp
    refine ⟨by have := K.size; simp; omega, fun c hc ho => ?_, fun c ho => ?_, fun y c h1 h2 => ?_, fun y hy => ?_, K.next, K.os, K.output, K.tape⟩
    · have hc' := K.size
      rw [Array.getElem?_push, if_neg (by omega)]; exact K.keep c hc ho
    · obtain ⟨y, q, hy, hc⟩ := ho
      by_cases hyx : y = x
      · subst hyx
        obtain ⟨c', Q, h1, _⟩ := I.rel.live _ _ hy
        rw [hx0] at h1; cases h1
      · rw [Sig.put_ne _ _ _ hyx] at hc
        exact K.own c ⟨y, q, hy, hc⟩
    · by_cases hyx : y = x
      · subst hyx
        rw [Sig.put_same] at h2
        simp only [Option.some.injEq] at h2
        right; have := K.size; omega
      · rw [Sig.put_ne _ _ _ hyx] at h2
        exact K.new y c h1 h2
    · have hyx : y ≠ x := fun h => by subst h; omega
      rw [Sig.put_ne _ _ _ hyx]; exact K.low y hy
  · have : (a.put e.o.dst v).defers = a.defers := by unfold Act.put; split <;> rfl
    rw [this]; exact I.df.mono hle
  · rw [hL, ← I.lev e' he' hk']
    refine ⟨fun h => h.elim id fun h => ?_, .inl⟩
    have := S.uniq he' he h
    subst this
    rw [hk] at hk'; cases hk'
  · rcases hfl z hz hi with h | rfl
    · exact hold _ _ (I.fl z hz h)
    · exact hflt
  · rcases hfl z hz hi with h | rfl <;> rcases hfl z' hz' hi' with h' | rfl
    · obtain ⟨n1, c1, h1, _⟩ := hbig _ _ (I.fl z hz h)
      obtain ⟨n2, c2, h2, _⟩ := hbig _ _ (I.fl z' hz' h')
      rw [Sig.put_ne _ _ _ n1, Sig.put_ne _ _ _ n2]
      exact I.fd z hz z' hz' h h' hne
    · obtain ⟨n1, c1, h1, h2⟩ := hbig _ _ (I.fl z hz h)
      rw [Sig.put_ne _ _ _ n1, Sig.put_same, h1]
      intro hh; simp only [Option.some.injEq] at hh; omega
    · obtain ⟨n1, c1, h1, h2⟩ := hbig _ _ (I.fl z' hz' h')
      rw [Sig.put_ne _ _ _ n1, Sig.put_same, h1]
      intro hh; simp only [Option.some.injEq] at hh; omega
    · exact absurd rfl hne
  · have h1 : ¬ inL e'.d.num := fun h => hi ((hL _).2 (.inl h))
    have h2 : e'.d.num ≠ e.d.num := fun h => hi ((hL _).2 (.inr h))
    have hne := I.ds e' he' e he y o x ob hk' hk hl hlv h2
    rw [Sig.put_ne _ _ _ hne]
    exact I.un e' he' y o hk' hl h1
  · rcases (hL _).1 hi with h | h
    · exact .inl (I.dn e' he' h j hj)
    · rw [h] at hj; exact .inl (hr j hj)
end Sit
end Go.Abs
end
section
namespace Go.Abs
variable {X : Ctx} {α : Type}
namespace Sit
variable {S : Sit X}
theorem effect {inL inL' : Nat → Prop} {b : Nat} {σ : Sig} {a : Act} {w : World} (I : S.Inv inL b σ a w) {e : Ev} (he : e ∈ S.evs) (hr : ∀ j, (lookN e.d.num S.rs).testBit j = true → inL j) (hn : ¬ inL e.d.num)
    (hL : ∀ j, inL' j ↔ inL j ∨ j = e.d.num) (hk : e.kd.isEff = true) {ro : Option Nat} (hro : S.rnd = ro.isSome) {Q : Exit → Act → World → Prop} {K : Act → World → Prop}
    (hK : ∀ σ' a' w', S.Inv inL' (b + 1) σ' a' w' → K a' w') : Region.wanted e.o (yielded S.ops a.tmps) = true ∧ e.o.wpIn (wideR ro) 0 X.P a w K Q := by
  have hI := (S.P.oper e he).2
  have hle := lv_le I he hr
  have hlv : e.lv = b := by
    have := mt (I.lev e he hk).2 hn
    omega
  have hG := good I he hr hn
  have hok := S.P.ok e he
  rw [isEff_kd hk] at hok
  obtain ⟨hwant, _, fl', Aa, A', hab, hsem, hh, hnx, hlo, hfl'⟩ := hok
  rw [hlv] at hab hsem hh hnx hlo hfl'
  refine ⟨hwant σ a hG, ?_⟩
  obtain ⟨pre, post, hs, hc⟩ := S.split he
  have h0 : ∀ z ∈ S.L.fl b, S.σ₀ z.2.1 = none := fun z hz => by
    obtain ⟨e', he', ⟨_, hb2⟩, hl⟩ := S.fl_born b I.bm z hz
    exact S.hw.fresh _ (I.nb e' he' _ _ hb2 hl).1
  obtain ⟨hwA, hkA, hflA⟩ := hab.sound (fun i hi => hr i (hc.ab i hi)) I.rel I.kp (S.P.nod b (Nat.zero_le _) I.bm) I.fl I.fd h0
  have hAn := hab.next
  refine hsem ro hro σ w a Q K hwA hG I.df fun σ' w' v' ds hE hv hds => hK σ' _ w' ?_
  have hmon : (S.L.W b).next.val ≤ A'.next.val := by have := hE.keeps.next; rw [hAn] at this; exact this
  have late : ∀ e' ∈ S.evs, e'.lv = b + 1 → ¬ inL e'.d.num ∧ e'.d.num ≠ e.d.num := fun e' he' hl' => by
    obtain ⟨pre', post', hs', hc'⟩ := S.split he'
    have hp := S.eff_pre hs' he hk (by omega)
    refine ⟨fun hi => ?_, fun h => (hc'.new _ (List.mem_map_of_mem hp)) h.symm⟩
    exact hn (I.dn e' he' hi _ (hc'.effs _ (List.mem_map_of_mem hp) (S.eff_op he hk)))
  have hflz : ∀ z ∈ S.L.fl (b + 1), inL' z.1 → z ∈ fl' ∧ inL z.1 := fun z hz hi => by
    rcases hfl' z hz with h | ⟨e', he', ⟨hb1, hb2⟩, hl'⟩
    · refine ⟨h, ?_⟩
      rcases (hL _).1 hi with h' | h'
      · exact h'
      · obtain ⟨e', he', ⟨hb1, hb2⟩, _⟩ := S.fl_born b I.bm z (hab.sub z h)
        have := S.uniq he' he (hb1.trans h')
        subst this
        rw [hb2] at hk; cases hk
    · obtain ⟨h1, h2⟩ := late e' he' hl'
      rw [← hb1] at hi
      exact ((hL _).1 hi).elim (fun h => absurd h h1) (fun h => absurd h h2)
  have bornNe : ∀ e' ∈ S.evs, ∀ x o, e'.kd = .born x o → e'.d.num ≠ e.d.num := fun e' he' x o hk' h => by
    have := S.uniq he' he h
    subst this
    rw [hk'] at hk; cases hk
  have bmb : b + 1 ≤ S.m := by have := S.P.lvs.lt e he hk; omega
  refine ⟨Sig.le_trans I.le hE.le, hE.rel.of_heap hh hnx, (hkA.trans hE.le hE.keeps).more hh hnx, ?_, I.ti.put (a' := { a with defers := ds }) hE.le he (fun e' he' h => S.uniq he' he h) (fun e' he' y h h' => S.dstU he' he h h') hI.dst hv hL rfl, bmb,
    fun e' he' hk' => ?_, fun z hz hi => ?_, fun z hz z' hz' hi hi' hne => ?_, fun e' he' x o hk' hl hi => ?_, fun e' he' x o hk' hl => ?_, fun e1 he1 e2 he2 x1 o1 x2 o2 hk1 hk2 hl1 hl2 hne => ?_, fun e' he' hi j hj => (hL _).2 ?_⟩
  · have : (({ a with defers := ds } : Act).put e.o.dst v').defers = ds := by unfold Act.put; split <;> rfl
    rw [this]; exact hds
  · rw [hL, I.lev e' he' hk']
    constructor
    · rintro (h | h)
      · omega
      · have := S.uniq he' he h
        subst this; omega
    · intro h
      by_cases hb : e'.lv < b
      · exact .inl hb
      · exact .inr (by rw [S.effU he' he hk' hk (by omega)])
  · obtain ⟨h1, h2⟩ := hflz z hz hi
    exact ((hflA z h1 h2).frame hE).more hh hnx
  · obtain ⟨h1, h2⟩ := hflz z hz hi
    obtain ⟨h1', h2'⟩ := hflz z' hz' hi'
    have hd := I.fd z (hab.sub z h1) z' (hab.sub z' h1') h2 h2' hne
    obtain ⟨c, _, e1, _⟩ := (hflA z h1 h2).at_
    obtain ⟨c', _, e1', _⟩ := (hflA z' h1' h2').at_
    rw [hE.le.at_ _ _ e1, hE.le.at_ _ _ e1', ← e1, ← e1']
    exact hd
  · by_cases hb : e'.lv ≤ b
    · have h1 : ¬ inL e'.d.num := fun h => hi ((hL _).2 (.inl h))
      rw [hE.keeps.low x (by rw [hAn]; exact (I.nb e' he' x o hk' hb).2)]
      exact I.un e' he' x o hk' hb h1
    · have hl' : e'.lv = b + 1 := by omega
      obtain ⟨_, _, h3⟩ := S.P.born1 e' he' x o hk'
      have h3 := h3 (by omega)
      rw [hl', ← hlo] at h3
      exact hE.rel.fresh x h3
  · by_cases hb : e'.lv ≤ b
    · obtain ⟨h1, h2⟩ := I.nb e' he' x o hk' hb
      exact ⟨h1, by omega⟩
    · have hl' : e'.lv = b + 1 := by omega
      obtain ⟨h1, _, h3⟩ := S.P.born1 e' he' x o hk'
      have h3 := h3 (by omega)
      rw [hl'] at h1 h3
      rw [← hlo] at h3
      have hk0 := I.kp.next
      exact ⟨by omega, h1⟩
  · by_cases hb1 : e1.lv ≤ b <;> by_cases hb2 : e2.lv ≤ b
    · exact I.ds e1 he1 e2 he2 x1 o1 x2 o2 hk1 hk2 hb1 hb2 hne
    · have hl' : e2.lv = b + 1 := by omega
      obtain ⟨_, _, h3⟩ := S.P.born1 e2 he2 x2 o2 hk2
      have h3 := h3 (by omega)
      rw [hl', ← hlo] at h3
      have := (I.nb e1 he1 x1 o1 hk1 hb1).2
      intro h; subst h; omega
    · have hl' : e1.lv = b + 1 := by omega
      obtain ⟨_, _, h3⟩ := S.P.born1 e1 he1 x1 o1 hk1
      have h3 := h3 (by omega)
      rw [hl', ← hlo] at h3
      have := (I.nb e2 he2 x2 o2 hk2 hb2).2
      intro h; subst h; omega
    · intro hxx
      have hp := pairwise_all (R := fun e e' => e.d.num ≠ e'.d.num → (BornLt e e' ∨ BornLt e' e)) (fun _ h => absurd rfl h) (fun _ _ h h' => (h (Ne.symm h')).symm) (S.P.bornP.imp fun h _ => .inl h) e1 he1 e2 he2 hne
      rcases hp with h | h
      · have := h x1 o1 x2 o2 hk1 hk2 (by omega); subst hxx; omega
      · have := h x2 o2 x1 o1 hk2 hk1 (by omega); subst hxx; omega
  · rcases (hL _).1 hi with h | h
    · exact .inl (I.dn e' he' h j hj)
    · rw [h] at hj; exact .inl (hr j hj)
theorem one {inL inL' : Nat → Prop} {b : Nat} {σ : Sig} {a : Act} {w : World} (I : S.Inv inL b σ a w) {e : Ev} (he : e ∈ S.evs) (hr : ∀ j, (lookN e.d.num S.rs).testBit j = true → inL j) (hn : ¬ inL e.d.num)
    (hL : ∀ j, inL' j ↔ inL j ∨ j = e.d.num) {ro : Option Nat} (hro : S.rnd = ro.isSome) {Q : Exit → Act → World → Prop} {K : Act → World → Prop}
    (hK : ∀ b' σ' a' w', S.Inv inL' b' σ' a' w' → K a' w') : wpOpIn (wideR ro) 0 X.P S.ops Q e.d.num K a w := by
  have ho := (S.P.oper e he).1
  have hG := good I he hr hn
  have hok := S.P.ok e he
  cases hk : e.kd with
  | skip =>
    rw [hk] at hok
    obtain ⟨hw, hv⟩ := hok
    simp only [wpOpIn, ho, hw σ a hG, Bool.false_eq_true, if_false]
    exact ⟨fun _ _ => trivial, hK b σ _ w (quiet I he hr hL (.inl hk) (by rw [hv]; exact .undef))⟩
  | rd =>
    rw [hk] at hok
    obtain ⟨hw, op, hop, hsem⟩ := hok
    simp only [wpOpIn, ho, hw σ a hG, if_true]
    have hR : e.d.it.op.isR = true := by rw [hop]; rfl
    obtain ⟨v', h1, h2⟩ := hsem b (lv_le I he hr) I.bm (hi_ge I he hR hn) _ σ w a I.rel hG (fun t ht => opTmps_sub e.d.it t (by rw [hop]; exact ht))
    exact wpIn_of_run h2 (fun d => by simp) (hK b σ _ w (quiet I he hr hL (.inr hk) h1))
  | born x ob =>
    rw [hk] at hok
    obtain ⟨hw, bv, hv, hbok, hsem⟩ := hok
    simp only [wpOpIn, ho, hw σ a hG, if_true]
    obtain ⟨O, h1, h2⟩ := hsem σ w a I.rel.glob hG
    refine wpIn_of_run h2 (fun d => by simp) (hK b _ _ _ (birth I he hr hn hL hk h1 ?_))
    rw [hv]
    exact BV.rel (Sig.put_same _ _ _ _) hbok
  | eff =>
    have hke : e.kd.isEff = true := by rw [hk]; rfl
    obtain ⟨hw, hwp⟩ := effect I he hr hn hL hke hro (Q := Q) (K := K) fun σ' a' w' => hK _ σ' a' w'
    simp only [wpOpIn, ho, hw, if_true]
    exact hwp
theorem done {inL : Nat → Prop} {b : Nat} {σ : Sig} {a : Act} {w : World} (I : S.Inv inL b σ a w) (hall : ∀ e ∈ S.evs, inL e.d.num) : Go.Abs.Ext X S.σ₀ S.A S.w₀ σ S.Af w ∧ AR σ S.tmf S.Df S.N a := by
  have hb : b = S.m := by
    refine Nat.le_antisymm I.bm (Nat.le_of_not_lt fun hlt => ?_)
    obtain ⟨e, he, hk, hl⟩ := S.P.lvs.all b (Nat.zero_le _) hlt
    have := (I.lev e he hk).1 (hall e he)
    omega
  subst hb
  have hin : ∀ z ∈ S.L.fl S.m, inL z.1 := fun z hz => by
    obtain ⟨e, he, ⟨hb1, _⟩, _⟩ := S.fl_born S.m (Nat.le_refl _) z hz
    rw [← hb1]; exact hall e he
  have h0 : ∀ z ∈ S.L.fl S.m, S.σ₀ z.2.1 = none := fun z hz => by
    obtain ⟨e', he', ⟨_, hb2⟩, hl⟩ := S.fl_born S.m I.bm z hz
    exact S.hw.fresh _ (I.nb e' he' _ _ hb2 hl).1
  obtain ⟨h1, h2, _⟩ := (absAll_R (S.L.fl S.m) (S.L.W S.m)).sound (fun i hi => by
    obtain ⟨z, hz, rfl⟩ := List.mem_map.1 hi
    exact hin z hz) I.rel I.kp (S.P.nod S.m (Nat.zero_le _) I.bm) I.fl I.fd h0
  rw [← S.P.fin] at h1 h2
  refine ⟨⟨I.le, h1, h2⟩, ⟨fun x v hx => ?_, I.ti.sz, by rw [S.P.dfin]; exact I.df⟩⟩
  rcases S.P.tms.fin x v hx with ⟨e, he, hd, rfl⟩ | ⟨h3, h4⟩
  · exact I.ti.t2 e he (hall e he) x hd
  · obtain ⟨v', h5, h6⟩ := S.hA.tr x v h4
    refine ⟨v', ?_, h6.mono I.le⟩
    rw [I.ti.t1 x fun e he _ => h3 e he]; exact h5
theorem any (ro : Option Nat) (hro : S.rnd = ro.isSome) {Q : Exit → Act → World → Prop} (hQ : ∀ σ' w' a', Go.Abs.Ext X S.σ₀ S.A S.w₀ σ' S.Af w' → AR σ' S.tmf S.Df S.N a' → Q .normal a' w') :
    ∀ (fuel : Nat) (listed : Array Bool) (b : Nat) (σ : Sig) (a : Act) (w : World), listed.size = S.ops.size → listed.toList.countP (!·) ≤ fuel → S.Inv (fun j => listed.getD j false = true) b σ a w →
      wpAnyIn (wideR ro) 0 X.P .any S.ops Q fuel listed a w := by
  intro fuel
  have ready : ∀ (listed : Array Bool) (b : Nat) (σ : Sig) (a : Act) (w : World), listed.size = S.ops.size → S.Inv (fun j => listed.getD j false = true) b σ a w →
      (Region.ready .any S.ops listed = [] → Q .normal a w) := by
    intro listed b σ a w hsz I hnil
    have hall : ∀ e ∈ S.evs, listed.getD e.d.num false = true := by
      refine Classical.byContradiction fun hne => ?_
      have hex : ∃ e ∈ S.evs, ¬ listed.getD e.d.num false = true := Classical.byContradiction fun h => hne fun e he => Classical.byContradiction fun h' => h ⟨e, he, h'⟩
      obtain ⟨pre, e, post, hs, hp, hn⟩ := first_not (P := fun e : Ev => listed.getD e.d.num false = true) hex
      have he : e ∈ S.evs := by rw [hs]; simp
      have ho := (S.P.oper e he).1
      have hlt : e.d.num < S.ops.size := (Array.getElem?_eq_some_iff.1 ho).1
      have hc : Chk1 S.rs S.Wt S.l (pre.map (·.d)) e.d := S.C.one _ e.d (post.map (·.d)) (by rw [← S.P.map, hs]; simp)
      obtain ⟨o', ho', _, hmask⟩ := S.C.op e.d (S.mem_d he)
      rw [ho] at ho'; cases ho'
      have hmem : e.d.num ∈ Region.ready .any S.ops listed := by
        unfold Region.ready
        rw [List.mem_filter]
        refine ⟨List.mem_range.2 hlt, ?_⟩
        have h1 : listed.getD e.d.num true = false := by
          have hl : e.d.num < listed.size := by omega
          simp only [Array.getD_eq_getD_getElem?, Array.getElem?_eq_getElem hl, Option.getD_some] at hn ⊢
          simpa using hn
        rw [h1, ho]
        simp only [Bool.not_false, Option.map_some, Option.getD_some, Bool.true_and]
        rw [Array.all_eq_true']
        intro ed hed
        cases hb : Region.binds .any ed with
        | false => simp
        | true =>
          have hdep : ed.on ∈ depsOf e.o := List.mem_map.2 ⟨ed, List.mem_filter.2 ⟨by simpa using hed, hb⟩, rfl⟩
          obtain ⟨d', hd', hnum⟩ := hc.done ed.on (by rw [hmask, maskOf_bit]; exact ⟨_, hdep, .inl rfl⟩)
          obtain ⟨e', he', rfl⟩ := List.mem_map.1 hd'
          have := hp e' he'
          rw [hnum] at this
          simp [this]
      rw [hnil] at hmem; cases hmem
    obtain ⟨h1, h2⟩ := done I hall
    exact hQ σ w a h1 h2
  induction fuel with
  | zero =>
    intro listed b σ a w hsz hcnt I
    have hnil : Region.ready .any S.ops listed = [] := by
      unfold Region.ready
      rw [List.filter_eq_nil_iff]
      intro i hi
      have hlt : i < listed.size := by rw [hsz]; exact List.mem_range.1 hi
      have h0 := List.countP_eq_zero.1 (Nat.le_zero.1 hcnt) listed[i] (by simp)
      have h1 : listed.getD i true = true := by
        simp only [Array.getD_eq_getD_getElem?, Array.getElem?_eq_getElem hlt, Option.getD_some]
        simpa using h0
      simp [h1]
    exact ⟨hnil, ready listed b σ a w hsz I hnil⟩
  | succ fuel ih =>
    intro listed b σ a w hsz hcnt I
    refine ⟨ready listed b σ a w hsz I, fun i hi => ?_⟩
    unfold Region.ready at hi
    rw [List.mem_filter] at hi
    obtain ⟨hlt, hi⟩ := hi
    have hlt := List.mem_range.1 hlt
    obtain ⟨d, hd, hnum⟩ := S.C.all i hlt
    rw [← S.P.map] at hd
    obtain ⟨e, he, rfl⟩ := List.mem_map.1 hd
    subst hnum
    have ho := (S.P.oper e he).1
    obtain ⟨o', ho', _, hmask⟩ := S.C.op e.d (S.mem_d he)
    rw [ho] at ho'; cases ho'
    rw [ho] at hi
    simp only [Option.map_some, Option.getD_some, Bool.and_eq_true, Bool.not_eq_true'] at hi
    obtain ⟨hno, hdeps⟩ := hi
    have hlt' : e.d.num < listed.size := by omega
    have hno' : listed[e.d.num] = false := by
      simpa only [Array.getD_eq_getD_getElem?, Array.getElem?_eq_getElem hlt', Option.getD_some] using hno
    rw [Array.all_eq_true'] at hdeps
    have hdep : ∀ j ∈ depsOf e.o, listed.getD j false = true := fun j hj => by
      obtain ⟨ed, hed, rfl⟩ := List.mem_map.1 hj
      obtain ⟨hed, hb⟩ := List.mem_filter.1 hed
      have := hdeps ed (by simpa using hed)
      simpa [hb] using this
    have hr : ∀ j, (lookN e.d.num S.rs).testBit j = true → listed.getD j false = true := fun j hj => by
      rw [hmask, maskOf_bit] at hj
      obtain ⟨i, hi, rfl | hij⟩ := hj
      · exact hdep _ hi
      · have h1 := hdep i hi
        have hilt : i < S.ops.size := by
          refine Nat.lt_of_not_le fun hge => ?_
          have : listed[i]? = none := Array.getElem?_eq_none (by omega)
          rw [Array.getD_eq_getD_getElem?, this] at h1; cases h1
        obtain ⟨d', hd', hnum'⟩ := S.C.all i hilt
        rw [← S.P.map] at hd'
        obtain ⟨e', he', rfl⟩ := List.mem_map.1 hd'
        subst hnum'
        exact I.dn e' he' h1 j hij
    have hn : ¬ listed.getD e.d.num false = true := by
      simp only [Array.getD_eq_getD_getElem?, Array.getElem?_eq_getElem hlt', Option.getD_some, hno']; decide
    refine one I he hr hn (inL' := fun j => (listed.setIfInBounds e.d.num true).getD j false = true) (fun j => ?_) hro fun b' σ' a' w' I' => ?_
    · simp only [Array.getD_eq_getD_getElem?, Array.getElem?_setIfInBounds]
      by_cases hj : e.d.num = j
      · subst hj; simp [hlt']
      · have : j ≠ e.d.num := fun h => hj h.symm
        simp [hj, this]
    · refine ih _ b' σ' a' w' (by simpa using hsz) ?_ I'
      rw [Array.toList_setIfInBounds, List.countP_set (by simpa using hlt')]
      simp only [Array.getElem_toList, hno', Bool.not_false, if_true, Bool.not_true, Bool.false_eq_true, if_false]
      omega
end Sit
theorem draw_ok (hm : X.P.follows .mixedOrders = true) : DrawOk X α := by
  intro rnd call hcall N id ops items tm A D k r hc h
  obtain ⟨rs, Wt, C⟩ := compDraw_ok hc
  have hnd : (items.map (·.num)).Nodup := by
    rw [List.Nodup, List.pairwise_map]
    exact pairwise_of_split fun pre d post hl e he => (C.one pre d post hl).new e he
  obtain ⟨evs, L, m, tmf, Af, Df, hk, p⟩ := plan hcall items tm A D [] [] 0 k r (fun d hd => let ⟨o, h1, h2, _⟩ := C.op d hd; ⟨o, h1, h2⟩) (fun q hq => by cases hq) .nil hnd (fun d hd z hz => by cases hz) h
  refine ⟨tmf, Af, Df, hk, fun ro hro σ w a Q hw hA hQ => ?_⟩
  let S : Sit X := ⟨N, ops, rnd, rs, Wt, items, tm, A, D, evs, L, m, tmf, Af, Df, σ, w, a, C, p, hw, hA⟩
  refine wpIn_region_any hm ?_
  refine Sit.any (S := S) ro hro hQ _ _ 0 σ a _ (by simp [S]) ?_ (S.start fun j => ?_)
  · refine Nat.le_trans List.countP_le_length ?_
    simp [S]
  · simp only [Array.getD_eq_getD_getElem?, Array.getElem?_replicate]
    split <;> simp
end Go.Abs
end
section
namespace Go.Abs
variable {α : Type}
def ctx (P : Program) (ng : Nat) : Ctx := ⟨P, ng⟩
variable {P : Program} {ng : Nat}
theorem run_getO {w : World} {c : Nat} {O : Obj} (h : w.heap[c]? = some O) (hn : ∀ cs e fr, O ≠ .cells cs e fr) : (getObj c).run P w = .ok O w := by
  cases O with
  | cells cs e fr => exact absurd rfl (hn cs e fr)
  | _ => simp [getObj, Sem.run, h]
theorem run_setO {w : World} {c : Nat} {O O' : Obj} (h : w.heap[c]? = some O) (hn : ∀ cs e fr, O ≠ .cells cs e fr) : (setObj c O').run P w = .ok () { w with heap := w.heap.setIfInBounds c O' } := by
  cases O with
  | cells cs e fr => exact absurd rfl (hn cs e fr)
  | _ => simp [setObj, Sem.run, h]
theorem run_getLoop {w : World} {c : Nat} {l : Loop} (h : w.heap[c]? = some (.loop l)) : (Instr.getLoop c).run P w = .ok l w := by
  simp only [Instr.getLoop, Sem.run_bind]
  rw [run_getO h (fun _ _ _ hh => by cases hh)]
  simp
theorem heap_set {w : World} {c : Nat} {O O' : Obj} (h : w.heap[c]? = some O) (d : Nat) : (w.heap.setIfInBounds c O')[d]? = if d = c then some O' else w.heap[d]? := by
  have hlt := (Array.getElem?_eq_some_iff.1 h).1
  rw [Array.getElem?_setIfInBounds]
  by_cases e : c = d
  · subst e; simp [hlt]
  · have e' : d ≠ c := fun h => e h.symm
    simp [e, e']
variable {X : Ctx}
theorem Ext.setO {σ : Sig} {A : AW} {w : World} (h : WRel X σ A w) {a : Ix} {c : Nat} {o o' : AObj} {O O' : Obj} (ha : A.heap.get a = some o) (hc : σ a = some c) (hO : w.heap[c]? = some O) (ho : ORel X σ o' O') (hn : ∀ cs e fr, O' ≠ .cells cs e fr) :
    Go.Abs.Ext X σ A w σ ⟨T.set (some o') a A.heap, A.next⟩ { w with heap := w.heap.setIfInBounds c O' } :=
  Ext.change h ha hc ho (heap_set hO) (fun cs e fr hh => absurd hh (hn cs e fr)) (by simp) rfl rfl rfl
theorem live_at {σ : Sig} {A : AW} {w : World} (h : WRel X σ A w) {a : Ix} {o : AObj} (ha : A.heap.get a = some o) : ∃ c O, σ a = some c ∧ w.heap[c]? = some O ∧ ORel X σ o O := h.live a o ha
theorem leaveK_ok {call : CallK α} (hcall : CallOk X call) : ∀ {D : List ADef} {A : AW} {k : AW → Option α} {r : α}, leaveK call D A k = some r → ∃ A', k A' = some r ∧
    ∀ σ w ds fn tmps (R : Ending → World → Prop), WRel X σ A w → DRel σ D ds → (∀ σ' w', Go.Abs.Ext X σ A w σ' A' w' → LeavesInM Fence.wide 0 X.P fn tmps R [] .returning w') → LeavesInM Fence.wide 0 X.P fn tmps R ds .returning w
  | [], A, k, r, h => ⟨A, h, fun σ w ds fn tmps R hw hd hR => by cases hd; exact hR σ w (Ext.refl hw)⟩
  | .call f args :: D, A, k, r, h => by
    simp only [leaveK] at h
    obtain ⟨A₁, hk, hfn, hv⟩ := hcall.dfn _ _ _ _ _ h
    obtain ⟨A', hk, hrest⟩ := leaveK_ok hcall hk
    refine ⟨A', hk, fun σ w ds fn tmps R hw hd hR => ?_⟩
    cases hd with
    | cons h1 ht =>
      rename_i d ds
      obtain ⟨cap, htar, hargs⟩ := h1
      refine ⟨by simp, .inr ⟨fun hd => (by cases hd), .func f, cap, f, d.args ++ cap, htar, ?_, fun _ _ => trivial, ?_⟩⟩
      · rw [htar]; exact run_callFunc hfn _ _
      · have hC := hv σ w (d.args ++ cap) hw hargs
        refine ⟨hC.1, fun c cs hu hr => ?_⟩
        obtain ⟨e, u', w', fr, ⟨rfl, v, σ', rfl, hE⟩, hs⟩ := hC.2 c cs hu hr
        refine ⟨_, _, w', fr, ?_, hs⟩
        exact hrest σ' w' ds fn tmps R hE.rel (ht.mono hE.le) fun σ'' w'' hE' => hR σ'' w'' (hE.trans hE')
  | .mark b :: D, A, k, r, h => by
    simp only [leaveK] at h
    split at h
    · rename_i hb
      simp only [T.setK_eq] at h
      obtain ⟨A', hk, hrest⟩ := leaveK_ok hcall h
      refine ⟨A', hk, fun σ w ds fn tmps R hw hd hR => ?_⟩
      cases hd with
      | cons h1 ht =>
        rename_i d ds
        obtain ⟨c, hc, htar⟩ := h1
        obtain ⟨c', O, hc', hO, ho⟩ := hw.live b _ hb
        rw [hc] at hc'; cases hc'
        cases ho
        simp only [if_true] at hO
        have hE : Go.Abs.Ext X σ A w σ ⟨T.set (some (.dfr false)) b A.heap, A.next⟩ { w with heap := w.heap.setIfInBounds c (.deferred none) } :=
          Ext.setO hw hb hc hO (show ORel X σ (.dfr false) (.deferred none) from .dfr (b := false)) (fun _ _ _ hh => by cases hh)
        refine ⟨by simp, .inl ⟨c, _, htar, ?_, hrest σ _ ds fn tmps R hE.rel ht fun σ'' w'' hE' => hR σ'' w'' (hE.trans hE')⟩⟩
        simp only [Instr.takeDeferred, Sem.run_bind]
        rw [run_getO hO (fun _ _ _ hh => by cases hh)]
        simp only [Result.andThen_ok, Sem.run_bind]
        rw [run_setO hO (fun _ _ _ hh => by cases hh)]
        simp
    · cases h
theorem TRel.args {σ : Sig} {args : List AV} {args' : Array Value} (h : VsRel σ args args'.toList) (n : Nat) : TRel σ (Go.Abs.setRow .nil 0 args) (args' ++ Array.replicate (n - args'.size) undef) := by
  have h1 := TRel.ofList h
  intro x v hx
  obtain ⟨v', h2, h3⟩ := h1 x v hx
  refine ⟨v', ?_, h3⟩
  have hlt : x.val < args'.size := by
    have := ofList_lt hx
    have h4 := h.length
    simp at h4; omega
  simp only [Array.toArray_toList] at h2
  rw [Array.getElem?_append_left hlt]; exact h2
theorem AR.args {σ : Sig} {args : List AV} {args' : Array Value} (h : VsRel σ args args'.toList) (n : Nat) : AR σ (Go.Abs.setRow .nil 0 args) [] n { tmps := args' ++ Array.replicate (n - args'.size) undef, defers := [] } :=
  ⟨TRel.args h n, by simp; omega, .nil⟩
structure CompFn (P : Program) (ng : Nat) (f : FuncId) (af : AFunc) (fn : Func) (c : Code) : Prop where
  get : P.funcs[f]? = some fn
  body : fn.body = some c
  name : (fn.name == "runtime.NumGoroutine") = false
  n : af.ntmps = fn.ntmps
  res : compRes P fn.results.toList = some af.results
  code : af.code = compC P ng fn.ntmps c
theorem compFn_ok {f : FuncId} {af : AFunc} (h : compFn P ng f = some af) : ∃ fn c, CompFn P ng f af fn c := by
  unfold compFn at h
  split at h
  · rename_i fn hfn
    split at h
    · rename_i c rs hc hrs
      split at h
      · cases h
      · rename_i hname
        cases h
        exact ⟨fn, c, hfn, hc, by simpa using hname, rfl, hrs, rfl⟩
    · cases h
  · cases h
theorem CompFn.fnOk {f : FuncId} {af : AFunc} {fn : Func} {c : Code} (h : CompFn P ng f af fn c) : FnOk P f := ⟨fn, h.get, h.name, by rw [h.body]; rfl⟩
theorem bodyPostM_of {e : Ex} {fn : Func} {R : Ending → World → Prop} {a : Act} {w : World} (he : ∀ id, e ≠ .exit id) (h : LeavesInM Fence.wide 0 P fn a.tmps R a.defers .returning w) : bodyPostM Fence.wide 0 P fn R e.to a w := by
  cases e with
  | normal => exact h
  | ret => exact h
  | exit id => exact absurd rfl (he id)
structure TabOk (P : Program) (ng : Nat) (T₀ : Tab α) : Prop where
  fn : ∀ f af, T₀.fn f = some af → compFn P ng f = some af
  base : ∀ f args A k r, T₀.isBase f = true → T₀.base f args A k = some r → ∃ v A', k v A' = some r ∧ FnRun (ctx P ng) f args A v A'
  comp : ∀ n c, T₀.comp n c = compC P ng n c
  dbase : ∀ f args A k r, T₀.isBase f = true → T₀.dbase f args A k = some r → ∃ A', k A' = some r ∧ DfnRun (ctx P ng) f args A A'
theorem efnK_ok {T₀ : Tab α} (hT : TabOk P ng T₀) {run : RunK α} {call : CallK α} (hrun : RunOk (ctx P ng) run) (hcall : CallOk (ctx P ng) call) {g : FuncId} {args : List AV} {A : AW} {k : AV → AW → Option α} {r : α}
    (h : efnK T₀ run call g args A k = some r) : ∃ v A', k v A' = some r ∧ FnOk P g ∧
      ∀ σ w (args' : Array Value), WRel (ctx P ng) σ A w → VsRel σ args args'.toList → CallsIn Fence.wide 0 P g args' w (CallPost (ctx P ng) σ A w v A') := by
  unfold efnK at h
  split at h
  · rename_i fn' hfn
    obtain ⟨fn, c, C⟩ := compFn_ok (hT.fn _ _ hfn)
    simp only [setRowK_eq] at h
    rw [C.code, C.n] at h
    obtain ⟨e, tm', A', D', hk, hv⟩ := hrun _ _ _ _ _ _ _ _ h
    have key : ∀ (he : ∀ id, e ≠ .exit id), (leaveK call D' A' fun A => resultsK tm' A fn'.results fun v => k v A) = some r → ∃ v A', k v A' = some r ∧ FnOk P g ∧
        ∀ σ w (args' : Array Value), WRel (ctx P ng) σ A w → VsRel σ args args'.toList → CallsIn Fence.wide 0 P g args' w (CallPost (ctx P ng) σ A w v A') := by
      intro he hk
      obtain ⟨A'', hk, hl⟩ := leaveK_ok hcall hk
      obtain ⟨v, hk, hres⟩ := resultsK_ok (X := ctx P ng) (fn := fn) C.res hk
      refine ⟨v, A'', hk, C.fnOk, fun σ w args' hw ha => ?_⟩
      refine callsIn_of_wp_marks C.get C.body trivial ?_
      refine (hv none rfl).1 σ w _ _ hw (AR.args ha _) fun σ' w' a' hE hA => bodyPostM_of he ?_
      refine hl σ' w' _ _ _ _ hE.rel hA.df fun σ'' w'' hE' => ?_
      obtain ⟨v', h1, h2⟩ := hres σ'' w'' a'.tmps hE'.rel (hA.tr.mono hE'.le)
      exact ⟨v', h2, v', σ'', rfl, hE.trans hE', h1⟩
    cases e with
    | normal => exact key (fun id hh => by cases hh) hk
    | ret => exact key (fun id hh => by cases hh) hk
    | exit id => cases hk
  · cases h
theorem fnK_ok {T₀ : Tab α} (hT : TabOk P ng T₀) {run : RunK α} {call : CallK α} (hrun : RunOk (ctx P ng) run) (hcall : CallOk (ctx P ng) call) {g : FuncId} {args : List AV} {A : AW} {k : AV → AW → Option α} {r : α}
    (h : fnK T₀ run call g args A k = some r) : ∃ v A', k v A' = some r ∧ FnRun (ctx P ng) g args A v A' := by
  unfold fnK at h
  split at h
  · rename_i hb; exact hT.base g args A k r hb h
  · obtain ⟨v, A', hk, hfn, hv⟩ := efnK_ok hT hrun hcall h
    exact ⟨v, A', hk, fun σ w args' hw ha => .inl ⟨hfn, hv σ w args' hw ha⟩⟩
theorem dfnK_ok {T₀ : Tab α} (hT : TabOk P ng T₀) {run : RunK α} (hrun : RunOk (ctx P ng) run) {g : FuncId} {args : List AV} {A : AW} {k : AW → Option α} {r : α}
    (h : dfnK T₀ run g args A k = some r) : ∃ A', k A' = some r ∧ DfnRun (ctx P ng) g args A A' := by
  unfold dfnK at h
  split at h
  · rename_i hb; exact hT.dbase g args A k r hb h
  · split at h
    · rename_i fn' hfn
      obtain ⟨fn, c, C⟩ := compFn_ok (hT.fn _ _ hfn)
      simp only [setRowK_eq] at h
      rw [C.code, C.n] at h
      obtain ⟨e, tm', A', D', hk, hv⟩ := hrun _ _ _ _ _ _ _ _ h
      have key : ∀ (he : ∀ id, e ≠ .exit id), D' = [] → (resultsK tm' A' fn'.results fun _ => k A') = some r → ∃ A', k A' = some r ∧ DfnRun (ctx P ng) g args A A' := by
        intro he hD hk2
        obtain ⟨v, hk3, hres⟩ := resultsK_ok (X := ctx P ng) (fn := fn) C.res hk2
        refine ⟨A', hk3, C.fnOk, fun σ w args' hw ha => ?_⟩
        refine callsDIn_of_wp (R := fun e w' => ∃ v σ', e = .returned v ∧ Go.Abs.Ext (ctx P ng) σ A w σ' A' w') C.get C.body trivial ?_
        refine (hv none rfl).1 σ w _ _ hw (AR.args ha _) fun σ' w' a' hE hA => ?_
        obtain ⟨v', h1, h2⟩ := hres σ' w' a'.tmps hE.rel hA.tr
        have hd : a'.defers = [] := by have := hA.df; rw [hD] at this; generalize a'.defers = ds at this; cases this; rfl
        cases e with
        | normal => exact ⟨hd, v', h2, v', σ', rfl, hE⟩
        | ret => exact ⟨hd, v', h2, v', σ', rfl, hE⟩
        | exit id => exact absurd rfl (he id)
      cases e with
      | normal =>
        simp only at hk
        split at hk
        · exact key (fun id hh => by cases hh) rfl hk
        · cases hk
      | ret =>
        simp only at hk
        split at hk
        · exact key (fun id hh => by cases hh) rfl hk
        · cases hk
      | exit id => cases hk
    · cases h
def putsF : List Ix → List AV → T AV → T AV
  | x :: xs, v :: vs, tm => putsF xs vs (T.set (some v) x tm)
  | _, _, tm => tm
theorem putsK_eq : ∀ {xs : List Ix} {vs : List AV} {tm : T AV} {k : T AV → Option α} {r : α}, putsK xs vs tm k = some r → xs.length = vs.length ∧ k (putsF xs vs tm) = some r
  | [], [], tm, k, r, h => ⟨rfl, h⟩
  | [], _ :: _, tm, k, r, h => by cases h
  | _ :: _, [], tm, k, r, h => by cases h
  | x :: xs, v :: vs, tm, k, r, h => by
    simp only [putsK, T.setK_eq] at h
    obtain ⟨h1, h2⟩ := putsK_eq h
    exact ⟨by simp [h1], h2⟩
theorem putsF_rel {σ : Sig} : ∀ {xs : List Ix} {vs : List AV} {tm : T AV} {vs' : List Value} {c : Array Value}, TRel σ tm c → VsRel σ vs vs' → (∀ x ∈ xs, x.val < c.size) →
    TRel σ (putsF xs vs tm) (((xs.map Ix.val).zip vs').foldl (fun (tmps : Array Value) (p : Nat × Value) => tmps.setIfInBounds p.1 p.2) c)
  | [], vs, tm, vs', c, h, _, _ => by cases vs <;> simpa [putsF] using h
  | x :: xs, [], tm, vs', c, h, hv, _ => by cases hv; simpa [putsF] using h
  | x :: xs, v :: vs, tm, vs', c, h, hv, hx => by
    cases hv with
    | cons h1 ht =>
      rename_i v' vs'
      simp only [putsF, List.map_cons, List.zip_cons_cons, List.foldl_cons]
      refine putsF_rel ?_ ht (fun y hy => by simpa using hx y (List.mem_cons_of_mem _ hy))
      intro y u hy
      rw [T.get_set] at hy
      have hlt := hx x (List.mem_cons_self ..)
      by_cases hyx : y = x
      · subst hyx
        rw [if_pos rfl] at hy; cases hy
        exact ⟨v', by simp [Array.getElem?_setIfInBounds, hlt], h1⟩
      · rw [if_neg hyx] at hy
        obtain ⟨u', h2, h3⟩ := h y u hy
        have hne : x.val ≠ y.val := fun e => hyx (Ix.val_inj e.symm)
        exact ⟨u', by rw [Array.getElem?_setIfInBounds, if_neg hne]; exact h2, h3⟩
theorem foldl_size : ∀ (l : List (Nat × Value)) (c : Array Value), (l.foldl (fun (tmps : Array Value) (p : Nat × Value) => tmps.setIfInBounds p.1 p.2) c).size = c.size
  | [], c => rfl
  | p :: l, c => by simp only [List.foldl_cons, foldl_size l]; simp
end Go.Abs
end
section
namespace Go.Abs
variable {α : Type} {P : Program} {ng : Nat}
def jumpOf : Ex → Option Code
  | .normal => none
  | .ret => some .ret
  | .exit id => some (.exit id)
theorem run_endRound {w : World} {c : Nat} {l : Loop} (h : w.heap[c]? = some (.loop l)) (j : Option Code) :
    (Instr.endRound c j).run P w = .ok (.bool j.isNone) { w with heap := w.heap.setIfInBounds c (.loop { l with state := if j.isNone then .ready else .done, pending := j }) } := by
  simp only [Instr.endRound, Sem.run_bind]
  rw [run_getLoop h]
  simp only [Result.andThen_ok]
  rw [run_setO h (fun _ _ _ hh => by cases hh)]
  simp
theorem run_beginRound {w : World} {c : Nat} {l : Loop} (h : w.heap[c]? = some (.loop l)) (hs : l.state = .ready) :
    (Instr.beginRound c).run P w = .ok () { w with heap := w.heap.setIfInBounds c (.loop { l with state := .busy }) } := by
  simp only [Instr.beginRound, Sem.run_bind]
  rw [run_getLoop h]
  simp only [Result.andThen_ok]
  rw [run_setO h (fun _ _ _ hh => by cases hh)]
  simp [hs]
theorem run_endLoop {w : World} {c : Nat} {l : Loop} (h : w.heap[c]? = some (.loop l)) (hs : l.state ≠ .busy) :
    (Instr.endLoop c).run P w = .ok l.pending { w with heap := w.heap.setIfInBounds c (.loop { l with state := .exhausted }) } := by
  simp only [Instr.endLoop, Sem.run_bind]
  rw [run_getLoop h]
  simp only [Result.andThen_ok]
  have hb : (l.state == LoopState.busy) = false := by simpa using hs
  rw [hb]
  simp only [Bool.false_eq_true, if_false, Sem.run_bind, Sem.run_pure, Result.andThen_ok]
  rw [run_setO h (fun _ _ _ hh => by cases hh)]
  simp
theorem yieldK_ok {T₀ : Tab α} (hT : TabOk P ng T₀) {run : RunK α} (hrun : RunOk (ctx P ng) run) {b : Ix} {args : List AV} {A : AW} {k : AV → AW → Option α} {r : α} (h : yieldK T₀ run b args A k = some r) :
    ∃ v A', k v A' = some r ∧ ∀ σ w (args' : Array Value) c, WRel (ctx P ng) σ A w → VsRel σ args args'.toList → σ b = some c →
      ∃ f tmps assign body, (Instr.yield c args').run P w = .ok (.round c f tmps assign body) w ∧ RoundIn Fence.wide 0 P c f tmps assign body w (CallPost (ctx P ng) σ A w v A') := by
  unfold yieldK at h
  split at h
  · rename_i pend n tm ps as bd d hb
    obtain ⟨hlen, h⟩ := putsK_eq h
    rw [hT.comp] at h
    obtain ⟨e, tm₁, A₁, D₁, h, h1⟩ := hrun _ _ _ _ _ _ _ _ h
    split at h
    · split at h
      · rename_i hb1
        rename_i pend1 n1 tm1' ps1 as1 bd1 d1
        simp only [T.setK_eq] at h
        rw [hT.comp] at h
        obtain ⟨e2, tm₂, A₂, D₂, h, h2⟩ := hrun _ _ _ _ _ _ _ _ h
        split at h
        · rename_i hb2
          rename_i st2 pend2 n2 tm2' ps2 as2 bd2 d2
          have fin : ∃ v A', k v A' = some r ∧ v = .bool (jumpOf e2).isNone ∧ A' = ⟨T.set (some (.loop (if (jumpOf e2).isNone then .ready else .done) (jumpOf e2) n2 tm2' ps2 as2 bd2 d2)) b A₂.heap, A₂.next⟩ := by
            cases e2 with
            | normal => simp only [T.setK_eq] at h; exact ⟨_, _, h, rfl, rfl⟩
            | ret => simp only [T.setK_eq] at h; exact ⟨_, _, h, rfl, rfl⟩
            | exit id => simp only [T.setK_eq] at h; exact ⟨_, _, h, rfl, rfl⟩
          obtain ⟨v, A', hk, rfl, rfl⟩ := fin
          refine ⟨_, _, hk, fun σ w args' c hw ha hc => ?_⟩
          obtain ⟨c', O, hc', hO, ho⟩ := hw.live b _ hb
          rw [hc] at hc'; cases hc'
          cases ho
          rename_i l hst hp hn ht hpar hpl hda hdb hd
          have hsz : args'.size = l.params.size := by
            have h3 := ha.length
            have h4 : l.params.toList.length = ps.length := by rw [hpar]; simp
            simp at h3 h4; omega
          refine ⟨l.fn, ((l.params.zip args').foldl (fun tmps (t, a) => tmps.setIfInBounds t a) l.tmps), l.assign, l.body, ?_, ?_⟩
          · simp only [Instr.yield, Sem.run_bind]
            rw [run_getLoop hO]
            simp only [Result.andThen_ok]
            rw [if_neg (by simpa using hsz)]
            rfl
          · refine roundIn_of_wpIn trivial ?_
            have hz : (l.params.zip args').foldl (fun tmps (x : Nat × Value) => match x with | (t, a) => tmps.setIfInBounds t a) l.tmps =
                (((ps.map Ix.val).zip args'.toList).foldl (fun (tmps : Array Value) (p : Nat × Value) => tmps.setIfInBounds p.1 p.2) l.tmps) := by
              rw [← hpar, ← Array.foldl_toList, Array.toList_zip]
            have hAR : AR σ (putsF ps args tm) [] n { tmps := (l.params.zip args').foldl (fun tmps (x : Nat × Value) => match x with | (t, a) => tmps.setIfInBounds t a) l.tmps, defers := [] } := by
              refine ⟨?_, ?_, .nil⟩
              · show TRel σ _ ((l.params.zip args').foldl _ l.tmps)
                rw [hz]
                exact putsF_rel ht ha fun x hx => Nat.lt_of_lt_of_le (hpl x hx) hn
              · show n ≤ ((l.params.zip args').foldl _ l.tmps).size
                rw [hz, foldl_size]; exact hn
            refine (h1 (some c) rfl).1 σ w _ _ hw hAR ?_ |> fun hh => (by rw [hda]; exact hh)
            intro σ₁ w₁ a₁ hE₁ hA₁
            obtain ⟨c', O, hc', hO₁, ho⟩ := hE₁.rel.live b _ hb1
            rw [hE₁.le.at_ _ _ hc] at hc'; cases hc'
            cases ho
            rename_i l₁ hst₁ hp₁ hn₁ ht₁ hpar₁ hpl₁ hda₁ hdb₁ hd₁
            refine ⟨_, run_beginRound hO₁ hst₁, ?_⟩
            have hEb : Go.Abs.Ext (ctx P ng) σ₁ A₁ w₁ σ₁ ⟨T.set (some (.loop .busy pend1 n1 tm1' ps1 as1 bd1 d1)) b A₁.heap, A₁.next⟩ { w₁ with heap := w₁.heap.setIfInBounds c (.loop { l₁ with state := .busy }) } :=
              Ext.setO hE₁.rel hb1 (hE₁.le.at_ _ _ hc) hO₁ (.loop rfl hp₁ hn₁ ht₁ hpar₁ hpl₁ hda₁ hdb₁ hd₁) (fun _ _ _ hh => by cases hh)
            refine (h2 (some c) rfl).1 σ₁ _ a₁ _ hEb.rel hA₁ ?_ |> fun hh => (by rw [hdb]; exact hh)
            intro σ₂ w₂ a₂ hE₂ hA₂
            obtain ⟨c', O, hc', hO₂, ho⟩ := hE₂.rel.live b _ hb2
            rw [hE₂.le.at_ _ _ (hE₁.le.at_ _ _ hc)] at hc'; cases hc'
            cases ho
            rename_i l₂ hst₂ hp₂ hn₂ ht₂ hpar₂ hpl₂ hda₂ hdb₂ hd₂
            have hEe := Ext.setO (X := ctx P ng) hE₂.rel hb2 (hE₂.le.at_ _ _ (hE₁.le.at_ _ _ hc)) hO₂ (o' := .loop (if (jumpOf e2).isNone then .ready else .done) (jumpOf e2) n2 tm2' ps2 as2 bd2 d2)
              (O' := .loop { l₂ with state := if (jumpOf e2).isNone then .ready else .done, pending := jumpOf e2 }) (.loop rfl rfl hn₂ ht₂ hpar₂ hpl₂ hda₂ hdb₂ hd₂) (fun _ _ _ hh => by cases hh)
            have hall := ((hE₁.trans hEb).trans hE₂).trans hEe
            have hpost : ∃ v' w', (Instr.endRound c (jumpOf e2)).run P w₂ = .ok v' w' ∧ CallPost (ctx P ng) σ A w (.bool (jumpOf e2).isNone) _ (.returned v') w' :=
              ⟨_, _, run_endRound hO₂ _, _, σ₂, rfl, hall, .bool _⟩
            cases e2 with
            | normal => exact hpost
            | ret => exact hpost
            | exit id => exact hpost
        · cases h
      · cases h
    · cases h
  · cases h
theorem exOf_some {j : Option Code} {e : Ex} (h : exOf j = some e) : j = jumpOf e := by
  unfold exOf at h
  split at h <;> first | (cases h; rfl) | cases h
theorem rangeK_ok : RangeOk (ctx P ng) α := by
  intro call hcall N f f' ps as bd tm A D k r hf hps h
  unfold rangeK at h
  obtain ⟨fv, h, hfv⟩ := opdK_ok h
  split at h
  · rename_i g first cap
    simp only [newK_eq, listK_eq] at h
    obtain ⟨v, A', h, hfn, hv⟩ := hcall.efn _ _ _ _ _ h
    split at h
    · rename_i st pend n tm' ps' as' bd' d' hl
      have : ∃ e, st ≠ .busy ∧ exOf pend = some e ∧ k e tm ⟨T.set (some (.loop .exhausted pend n tm' ps' as' bd' d')) (A.new (.dfr true)).next A'.heap, A'.next⟩ (.mark A.next :: D) = some r := by
        split at h
        · cases h
        · rename_i hnb
          simp only [T.setK_eq] at h
          split at h
          · rename_i e he; exact ⟨e, hnb, he, h⟩
          · cases h
      obtain ⟨e, hst, he, hk⟩ := this
      refine ⟨e, tm, _, _, hk, fun σ w a Q hw hA hQ => ?_⟩
      have hval := hfv (fun _ => True) σ a ng f (fun _ _ => trivial) (hA.tr.good _) hw.glob hf
      generalize heq : a.eval f = u at hval
      cases hval with
      | func h1 h2 =>
        rename_i first' cap'
        refine wpIn_rangeFunc (F := Fence.wide) fun fn _ => ?_
        have hE0 := Ext.new hw (o := .dfr true) (O := .deferred (some [])) (show ORel (ctx P ng) _ (.dfr true) (.deferred (some [])) from .dfr (b := true))
        have hne : ∀ t ∈ ps.toList, t < N := fun t ht => by
          have := List.all_eq_true.1 hps t ht
          exact Nat.le_of_ble_eq_true this
        let L : Loop := { state := .ready, pending := none, fn := fn, tmps := a.tmps, params := ps, assign := as, body := bd, defers := w.heap.size }
        have hcd : (σ.put A.next w.heap.size (Obj.ncells (.deferred (some [])))) A.next = some w.heap.size := Sig.put_same _ _ _ _
        have hE1 := Ext.new hE0.rel (o := .loop .ready none N tm (ps.toList.map ix) as bd A.next) (O := .loop L) (by
          refine (ORel.loop (X := ctx P ng) (l := L) (σ := σ.put A.next w.heap.size (Obj.ncells (.deferred (some [])))) rfl rfl hA.sz (hA.tr.mono hE0.le) ?_ ?_ rfl rfl hcd).mono (hE0.rel.le_put _)
          · simp [L, Function.comp_def]
          · intro x hx
            obtain ⟨t, ht, rfl⟩ := List.mem_map.1 hx
            simpa using hne t ht)
        have hE := hE0.trans hE1
        have hlc : ((σ.put A.next w.heap.size (Obj.ncells (.deferred (some [])))).put (A.new (.dfr true)).next (w.heap.push (.deferred (some []))).size (Obj.ncells (.loop L))) (A.new (.dfr true)).next = some (w.heap.push (.deferred (some []))).size := Sig.put_same _ _ _ _
        have hargs : VsRel ((σ.put A.next w.heap.size (Obj.ncells (.deferred (some [])))).put (A.new (.dfr true)).next (w.heap.push (.deferred (some []))).size (Obj.ncells (.loop L))) (first ++ [.yield (A.new (.dfr true)).next] ++ cap) (first' ++ #[Value.func (.yield (w.heap.push (.deferred (some []))).size) #[] #[]] ++ cap').toList := by
          have := ((h1.mono hE.le).append (.cons (.yield hlc) .nil)).append (h2.mono hE.le)
          simpa using this
        have hC := hv _ _ _ hE.rel hargs
        refine ⟨(w.heap.push (.deferred (some []))).size, [{ target := .collected w.heap.size, args := #[] }], { w with heap := (w.heap.push (.deferred (some []))).push (.loop L) }, { target := .fn (.func g) cap', args := first' ++ #[Value.func (.yield (w.heap.push (.deferred (some []))).size) #[] #[]] }, { w with heap := (w.heap.push (.deferred (some []))).push (.loop L) }, g, _, _, ?_, ?_, fun _ _ => trivial, ?_, fun hd => (by cases hd), hC.mono ?_⟩
        · show (Instr.enterLoop fn a.tmps ps as bd none).run P w = _
          simp only [Instr.enterLoop, Sem.run_bind, run_newObj, Result.andThen_ok, Sem.run_pure]
          rfl
        · simp only [resolve, rangeCall, heq, Deferred.ofValue, Sem.run_pure]
          simp
          rfl
        · exact run_callFunc hfn _ _
        · rintro e' w' ⟨v', σ', rfl, hE2, hvr⟩
          obtain ⟨c, O, hc, hO, ho⟩ := hE2.rel.live _ _ hl
          rw [hE2.le.at_ _ _ hlc] at hc; cases hc
          cases ho
          rename_i l hst' hp hn ht hpar hpl hda hdb hd
          have hE3 := Ext.setO (X := ctx P ng) hE2.rel hl (hE2.le.at_ _ _ hlc) hO (o' := .loop .exhausted pend n tm' ps' as' bd' d') (O' := .loop { l with state := .exhausted })
            (.loop rfl hp hn ht hpar hpl hda hdb hd) (fun _ _ _ hh => by cases hh)
          refine ⟨_, _, run_endLoop hO (by rw [hst']; exact hst), ?_⟩
          have hall := (hE.trans hE2).trans hE3
          have hA' : AR σ' tm (.mark A.next :: D) N { a with defers := [{ target := .collected w.heap.size, args := #[] }] ++ a.defers } :=
            ⟨hA.tr.mono hall.le, hA.sz, .cons ⟨_, (hE2.le.at_ _ _ (hE1.le.at_ _ _ hcd)), rfl⟩ (hA.df.mono hall.le)⟩
          have hQ' := hQ σ' _ _ hall hA'
          rw [hp, exOf_some he] at hQ' ⊢
          cases e with
          | normal => exact hQ'
          | ret => exact wpIn_ret hQ'
          | exit id => exact wpIn_exit hQ'
    · cases h
  · cases h
theorem sound {T₀ : Tab α} (hm : P.follows .mixedOrders = true) (hT : TabOk P ng T₀) : ∀ f, RunOk (ctx P ng) (runC T₀ f) ∧ CallOk (ctx P ng) ⟨fnC T₀ f, efnC T₀ f, dfnC T₀ f, yieldC T₀ f⟩
  | 0 => by
    refine ⟨fun N rnd c tm A D k r h => ?_, fun f args A k r h => ?_, fun f args A k r h => ?_, fun f args A k r h => ?_, fun b args A k r h => ?_⟩
    · simp only [runC] at h; cases h
    · simp only [fnC] at h; cases h
    · simp only [efnC] at h; cases h
    · simp only [dfnC] at h; cases h
    · simp only [yieldC] at h; cases h
  | f + 1 => by
    obtain ⟨h1, h2⟩ := sound hm hT f
    refine ⟨fun N rnd c tm A D k r h => ?_, fun g args A k r h => ?_, fun g args A k r h => ?_, fun g args A k r h => ?_, fun b args A k r h => ?_⟩
    · simp only [runC] at h; exact codeK_ok (draw_ok hm) rangeK_ok h1 h2 N rnd c tm A D k r h
    · simp only [fnC] at h; exact fnK_ok hT h1 h2 h
    · simp only [efnC] at h; exact efnK_ok hT h1 h2 h
    · simp only [dfnC] at h; exact dfnK_ok hT h1 h
    · simp only [yieldC] at h; exact yieldK_ok hT h1 h
theorem fnC_calls {T₀ : Tab α} (hm : P.follows .mixedOrders = true) (hT : TabOk P ng T₀) {f : Nat} {g : FuncId} {args : List AV} {A : AW} {k : AV → AW → Option α} {r : α} (h : efnC T₀ f g args A k = some r) :
    ∃ v A', k v A' = some r ∧ ∀ σ w (args' : Array Value), WRel (ctx P ng) σ A w → VsRel σ args args'.toList → Calls P g args' w fun e w' => ∃ v' σ', e = .returned v' ∧ Go.Abs.Ext (ctx P ng) σ A w σ' A' w' ∧ VRel σ' v v' := by
  obtain ⟨v, A', hk, _, hv⟩ := (sound hm hT f).2.efn _ _ _ _ _ h
  exact ⟨v, A', hk, fun σ w args' hw ha => callsIn_wide.1 (hv σ w args' hw ha)⟩
end Go.Abs
end
section
namespace Go.Abs.F
open Go.Abs
abbrev R := Option AV
noncomputable def getV (t : T AV) : Ix → (AV → R) → R :=
  @T.rec AV (fun _ => Ix → (AV → R) → R) (fun _ _ => none)
    (fun v _ _ il ir x k => @Ix.rec (fun _ => R) (@Option.rec AV (fun _ => R) none k v) (fun y _ => il y k) (fun y _ => ir y k) x) t
theorem getV_eq : ∀ (t : T AV) (x : Ix) (k : AV → R), getV t x k = (match t.get x with | some v => k v | none => none)
  | .nil, x, k => by cases x <;> rfl
  | .node v l r, .e, k => by cases v <;> rfl
  | .node v l r, .o x, k => getV_eq l x k
  | .node v l r, .i x, k => getV_eq r x k
noncomputable def getO (t : T AObj) : Ix → (AObj → R) → R :=
  @T.rec AObj (fun _ => Ix → (AObj → R) → R) (fun _ _ => none)
    (fun v _ _ il ir x k => @Ix.rec (fun _ => R) (@Option.rec AObj (fun _ => R) none k v) (fun y _ => il y k) (fun y _ => ir y k) x) t
theorem getO_eq : ∀ (t : T AObj) (x : Ix) (k : AObj → R), getO t x k = (match t.get x with | some v => k v | none => none)
  | .nil, x, k => by cases x <;> rfl
  | .node v l r, .e, k => by cases v <;> rfl
  | .node v l r, .o x, k => getO_eq l x k
  | .node v l r, .i x, k => getO_eq r x k
noncomputable def setV (v : AV) (x : Ix) : T AV → (T AV → R) → R :=
  @Ix.rec (fun _ => T AV → (T AV → R) → R)
    (fun t k => @T.rec AV (fun _ => R) (k (.node (some v) .nil .nil)) (fun _ l r _ _ => k (.node (some v) l r)) t)
    (fun _ ih t k => @T.rec AV (fun _ => R) (ih .nil fun l => k (.node none l .nil)) (fun u l r _ _ => ih l fun l => k (.node u l r)) t)
    (fun _ ih t k => @T.rec AV (fun _ => R) (ih .nil fun r => k (.node none .nil r)) (fun u l r _ _ => ih r fun r => k (.node u l r)) t) x
theorem setV_eq (v : AV) : ∀ (x : Ix) (t : T AV) (k : T AV → R), setV v x t k = T.setK (some v) x t k
  | .e, .nil, k => rfl
  | .e, .node _ l r, k => rfl
  | .o x, .nil, k => by simp only [T.setK]; exact setV_eq v x .nil _
  | .o x, .node u l r, k => by simp only [T.setK]; exact setV_eq v x l _
  | .i x, .nil, k => by simp only [T.setK]; exact setV_eq v x .nil _
  | .i x, .node u l r, k => by simp only [T.setK]; exact setV_eq v x r _
noncomputable def setO (v : AObj) (x : Ix) : T AObj → (T AObj → R) → R :=
  @Ix.rec (fun _ => T AObj → (T AObj → R) → R)
    (fun t k => @T.rec AObj (fun _ => R) (k (.node (some v) .nil .nil)) (fun _ l r _ _ => k (.node (some v) l r)) t)
    (fun _ ih t k => @T.rec AObj (fun _ => R) (ih .nil fun l => k (.node none l .nil)) (fun u l r _ _ => ih l fun l => k (.node u l r)) t)
    (fun _ ih t k => @T.rec AObj (fun _ => R) (ih .nil fun r => k (.node none .nil r)) (fun u l r _ _ => ih r fun r => k (.node u l r)) t) x
theorem setO_eq (v : AObj) : ∀ (x : Ix) (t : T AObj) (k : T AObj → R), setO v x t k = T.setK (some v) x t k
  | .e, .nil, k => rfl
  | .e, .node _ l r, k => rfl
  | .o x, .nil, k => by simp only [T.setK]; exact setO_eq v x .nil _
  | .o x, .node u l r, k => by simp only [T.setK]; exact setO_eq v x l _
  | .i x, .nil, k => by simp only [T.setK]; exact setO_eq v x .nil _
  | .i x, .node u l r, k => by simp only [T.setK]; exact setO_eq v x r _
noncomputable def opdF (x : Opd) : T AV → (AV → R) → R := @Opd.rec (fun _ => T AV → (AV → R) → R) (fun y tm k => getV tm y k) (fun v _ k => k v) x
theorem opdF_eq (x : Opd) (tm : T AV) (k : AV → R) : opdF x tm k = opdK tm x k := by
  cases x with
  | t y => exact getV_eq tm y k
  | c v => rfl
noncomputable def opdsF (l : List Opd) : T AV → (List AV → R) → R := @List.rec Opd (fun _ => T AV → (List AV → R) → R) (fun _ k => k []) (fun x _ ih tm k => opdF x tm fun v => ih tm fun vs => k (v :: vs)) l
theorem opdsF_eq : ∀ (l : List Opd) (tm : T AV) (k : List AV → R), opdsF l tm k = opdsK tm l k
  | [], tm, k => rfl
  | x :: l, tm, k => by
    show (opdF x tm fun v => opdsF l tm fun vs => k (v :: vs)) = _
    rw [opdF_eq]; simp only [opdsK, opdsF_eq l]
noncomputable def putV (dst : Option Ix) : AV → T AV → (T AV → R) → R := @Option.rec Ix (fun _ => AV → T AV → (T AV → R) → R) (fun _ tm k => k tm) (fun x v tm k => setV v x tm k) dst
theorem putV_eq (dst : Option Ix) (v : AV) (tm : T AV) (k : T AV → R) : putV dst v tm k = putK dst v tm k := by
  cases dst with
  | none => rfl
  | some x => exact setV_eq v x tm k
noncomputable def natF (n : Nat) : (Nat → R) → R := @Nat.rec (fun _ => (Nat → R) → R) (fun k => k 0) (fun m _ k => k (Nat.succ m)) n
theorem natF_eq (n : Nat) (k : Nat → R) : natF n k = natK n k := by cases n <;> rfl
noncomputable def boolF (b : Bool) : (AV → R) → R := @Bool.rec (fun _ => (AV → R) → R) (fun k => k (.bool false)) (fun k => k (.bool true)) b
theorem boolF_eq (b : Bool) (k : AV → R) : boolF b k = boolK b fun b => k (.bool b) := by cases b <;> rfl
noncomputable def kN (k : IntKind) : Nat := @IntKind.rec (fun _ => Nat) 0 1 2 3 4 5 6 7 k
noncomputable def kLim (k : IntKind) : Nat := @IntKind.rec (fun _ => Nat) 0 0 0 9223372036854775808 256 0 0 0 k
theorem kN_inj {k k' : IntKind} (h : Nat.beq (kN k) (kN k') = true) : k = k' := by
  cases k <;> cases k' <;> first | rfl | cases h
theorem kLim_fw {k : IntKind} {n : Nat} (h : Nat.blt n (kLim k) = true) : fw k (.ofNat n) = .ofNat n := by
  cases k
  case i64 => show (if Nat.blt n 9223372036854775808 then _ else _) = _; have h : Nat.blt n 9223372036854775808 = true := h; rw [if_pos h]
  case u8 => show (if Nat.blt n 256 then _ else _) = _; have h : Nat.blt n 256 = true := h; rw [if_pos h]
  all_goals (exfalso; rw [blt_decide] at h; simp [kLim] at h)
noncomputable def iteF (b : Bool) (x y : R) : R := @Bool.rec (fun _ => R) y x b
noncomputable def nokF (k : IntKind) (n : Nat) (κ : AV → R) (z : R) : R := @Bool.rec (fun _ => R) z (natF n fun n => κ (.int k (.ofNat n))) (Nat.blt n (kLim k))
noncomputable def addN (k : IntKind) (x y : Int) (κ : AV → R) : R :=
  @Int.rec (fun _ => R) (fun a => @Int.rec (fun _ => R) (fun b => nokF k (Nat.add a b) κ (intBinK .add k x y κ)) (fun _ => intBinK .add k x y κ) y) (fun _ => intBinK .add k x y κ) x
theorem nokF_eq {k : IntKind} {n : Nat} {κ : AV → R} {z : R} (h : z = intK (fw k (.ofNat n)) fun r => κ (.int k r)) : nokF k n κ z = z := by
  unfold nokF
  cases hb : Nat.blt n (kLim k)
  · rfl
  · show natF n _ = z
    rw [h, kLim_fw hb, natF_eq, natK_eq, intK_eq]
theorem addN_eq (k : IntKind) (x y : Int) (κ : AV → R) : addN k x y κ = intBinK .add k x y κ := by
  cases x with
  | ofNat a => cases y with
    | ofNat b => exact nokF_eq rfl
    | negSucc b => rfl
  | negSucc a => rfl
noncomputable def subN (k : IntKind) (x y : Int) (κ : AV → R) : R :=
  @Int.rec (fun _ => R) (fun a => @Int.rec (fun _ => R) (fun b => @Bool.rec (fun _ => R) (intBinK .sub k x y κ) (nokF k (Nat.sub a b) κ (intBinK .sub k x y κ)) (Nat.ble b a)) (fun _ => intBinK .sub k x y κ) y) (fun _ => intBinK .sub k x y κ) x
theorem subN_eq (k : IntKind) (x y : Int) (κ : AV → R) : subN k x y κ = intBinK .sub k x y κ := by
  cases x with
  | ofNat a => cases y with
    | ofNat b =>
      show @Bool.rec (fun _ => R) _ _ (Nat.ble b a) = _
      cases hb : Nat.ble b a
      · rfl
      · refine nokF_eq ?_
        have hle := Nat.le_of_ble_eq_true hb
        have : Int.sub (.ofNat a) (.ofNat b) = .ofNat (Nat.sub a b) := by
          show (a : Int) - (b : Int) = ((a - b : Nat) : Int)
          omega
        simp only [intBinK, this]
    | negSucc b => rfl
  | negSucc a => rfl
noncomputable def iltF (x y : Int) : Bool := @Int.rec (fun _ => Bool) (fun a => @Int.rec (fun _ => Bool) (fun b => Nat.blt a b) (fun _ => false) y) (fun a => @Int.rec (fun _ => Bool) (fun _ => true) (fun b => Nat.blt b a) y) x
theorem iltF_eq (x y : Int) : iltF x y = ilt x y := by cases x <;> cases y <;> rfl
noncomputable def ieqF (x y : Int) : Bool := @Int.rec (fun _ => Bool) (fun a => @Int.rec (fun _ => Bool) (fun b => Nat.beq a b) (fun _ => false) y) (fun a => @Int.rec (fun _ => Bool) (fun _ => false) (fun b => Nat.beq a b) y) x
theorem ieqF_eq (x y : Int) : ieqF x y = ieq x y := by cases x <;> cases y <;> rfl
noncomputable def notF (b : Bool) : Bool := @Bool.rec (fun _ => Bool) true false b
theorem notF_eq (b : Bool) : notF b = !b := by cases b <;> rfl
noncomputable def intBinF (op : BinOp) : IntKind → Int → Int → (AV → R) → R :=
  @BinOp.rec (fun _ => IntKind → Int → Int → (AV → R) → R)
    addN subN
    (fun k x y κ => intBinK .mul k x y κ)
    (fun k x y κ => intBinK .quo k x y κ)
    (fun k x y κ => intBinK .rem k x y κ)
    (fun k x y κ => intBinK .and k x y κ)
    (fun k x y κ => intBinK .or k x y κ)
    (fun k x y κ => intBinK .xor k x y κ)
    (fun k x y κ => intBinK .shl k x y κ)
    (fun k x y κ => intBinK .shr k x y κ)
    (fun k x y κ => intBinK .andNot k x y κ)
    (fun _ x y κ => boolF (ieqF x y) κ) (fun _ x y κ => boolF (notF (ieqF x y)) κ) (fun _ x y κ => boolF (iltF x y) κ) (fun _ x y κ => boolF (notF (iltF y x)) κ) (fun _ x y κ => boolF (iltF y x) κ) (fun _ x y κ => boolF (notF (iltF x y)) κ) op
theorem intBinF_eq (op : BinOp) (k : IntKind) (x y : Int) (κ : AV → R) : intBinF op k x y κ = intBinK op k x y κ := by
  cases op
  case add => exact addN_eq k x y κ
  case sub => exact subN_eq k x y κ
  case eql => exact (boolF_eq _ _).trans (by rw [ieqF_eq]; rfl)
  case neq => exact (boolF_eq _ _).trans (by rw [notF_eq, ieqF_eq]; rfl)
  case lss => exact (boolF_eq _ _).trans (by rw [iltF_eq]; rfl)
  case leq => exact (boolF_eq _ _).trans (by rw [notF_eq, iltF_eq]; rfl)
  case gtr => exact (boolF_eq _ _).trans (by rw [iltF_eq]; rfl)
  case geq => exact (boolF_eq _ _).trans (by rw [notF_eq, iltF_eq]; rfl)
  all_goals rfl
noncomputable def binOpF (op : BinOp) : IntKind → IntKind → Int → Int → (AV → R) → R :=
  @BinOp.rec (fun _ => IntKind → IntKind → Int → Int → (AV → R) → R)
    (fun k k' x y κ => @Bool.rec (fun _ => R) none (intBinF .add k x y κ) (Nat.beq (kN k) (kN k')))
    (fun k k' x y κ => @Bool.rec (fun _ => R) none (intBinF .sub k x y κ) (Nat.beq (kN k) (kN k')))
    (fun k k' x y κ => @Bool.rec (fun _ => R) none (intBinF .mul k x y κ) (Nat.beq (kN k) (kN k')))
    (fun k k' x y κ => @Bool.rec (fun _ => R) none (intBinF .quo k x y κ) (Nat.beq (kN k) (kN k')))
    (fun k k' x y κ => @Bool.rec (fun _ => R) none (intBinF .rem k x y κ) (Nat.beq (kN k) (kN k')))
    (fun k k' x y κ => @Bool.rec (fun _ => R) none (intBinF .and k x y κ) (Nat.beq (kN k) (kN k')))
    (fun k k' x y κ => @Bool.rec (fun _ => R) none (intBinF .or k x y κ) (Nat.beq (kN k) (kN k')))
    (fun k k' x y κ => @Bool.rec (fun _ => R) none (intBinF .xor k x y κ) (Nat.beq (kN k) (kN k')))
    (fun k _ x y κ => shiftK .shl k x y κ)
    (fun k _ x y κ => shiftK .shr k x y κ)
    (fun k k' x y κ => @Bool.rec (fun _ => R) none (intBinF .andNot k x y κ) (Nat.beq (kN k) (kN k')))
    (fun k k' x y κ => @Bool.rec (fun _ => R) none (intBinF .eql k x y κ) (Nat.beq (kN k) (kN k')))
    (fun k k' x y κ => @Bool.rec (fun _ => R) none (intBinF .neq k x y κ) (Nat.beq (kN k) (kN k')))
    (fun k k' x y κ => @Bool.rec (fun _ => R) none (intBinF .lss k x y κ) (Nat.beq (kN k) (kN k')))
    (fun k k' x y κ => @Bool.rec (fun _ => R) none (intBinF .leq k x y κ) (Nat.beq (kN k) (kN k')))
    (fun k k' x y κ => @Bool.rec (fun _ => R) none (intBinF .gtr k x y κ) (Nat.beq (kN k) (kN k')))
    (fun k k' x y κ => @Bool.rec (fun _ => R) none (intBinF .geq k x y κ) (Nat.beq (kN k) (kN k')))
    op
theorem binOpF_eq (op : BinOp) (k k' : IntKind) (x y : Int) (κ : AV → R) : binOpF op k k' x y κ = binK op (.int k x) (.int k' y) κ := by
  have key : (@Bool.rec (fun _ => R) none (intBinF op k x y κ) (Nat.beq (kN k) (kN k'))) = (if k = k' then intBinK op k x y κ else none) := by
    rw [intBinF_eq]
    cases hb : Nat.beq (kN k) (kN k')
    · rw [if_neg (fun e => by subst e; simp at hb)]
    · rw [if_pos (kN_inj hb)]
  cases op
  case shl => rfl
  case shr => rfl
  all_goals exact key
noncomputable def asInt (a : AV) : (IntKind → Int → R) → R := @AV.rec (fun _ => (IntKind → Int → R) → R) (fun _ => PUnit)
  (fun _ => fun _ => none)
  (fun k n => fun κ => κ k n)
  (fun _ => fun _ => none)
  (fun _ _ => fun _ => none)
  (fun _ => none)
  (fun _ _ => fun _ => none)
  (fun _ => none)
  (fun _ _ _ _ _ => fun _ => none)
  (fun _ => none)
  (fun _ => fun _ => none)
  (fun _ _ _ _ _ => fun _ => none)
  (fun _ => fun _ => none)
  (fun _ => none)
  (fun _ _ _ => fun _ => none)
  (fun _ => none)
  (fun _ _ => fun _ => none)
  (fun _ _ => fun _ => none)
  PUnit.unit (fun _ _ _ _ => PUnit.unit) a
noncomputable def binF (a : AV) : BinOp → AV → (AV → R) → R := @AV.rec (fun _ => BinOp → AV → (AV → R) → R) (fun _ => PUnit)
  (fun _ => fun _ _ _ => none)
  (fun k n => fun op b κ => asInt b fun k' m => binOpF op k k' n m κ)
  (fun n => fun op b κ => binK op (.ge n) b κ)
  (fun n l => fun op b κ => binK op (.str n l) b κ)
  (fun _ _ _ => none)
  (fun _ _ => fun _ _ _ => none)
  (fun _ _ _ => none)
  (fun _ _ _ _ _ => fun _ _ _ => none)
  (fun _ _ _ => none)
  (fun _ => fun _ _ _ => none)
  (fun _ _ _ _ _ => fun _ _ _ => none)
  (fun _ => fun _ _ _ => none)
  (fun _ _ _ => none)
  (fun _ _ _ => fun _ _ _ => none)
  (fun _ _ _ => none)
  (fun _ _ => fun _ _ _ => none)
  (fun _ _ => fun _ _ _ => none)
  PUnit.unit (fun _ _ _ _ => PUnit.unit) a
theorem binF_eq (a : AV) (op : BinOp) (b : AV) (κ : AV → R) : binF a op b κ = binK op a b κ := by
  cases a
  case int k n =>
    cases b
    case int k' m => exact binOpF_eq op k k' n m κ
    all_goals rfl
  all_goals rfl
noncomputable def pickF (c : AV) : Opd → Opd → T AV → (AV → R) → R := @AV.rec (fun _ => Opd → Opd → T AV → (AV → R) → R) (fun _ => PUnit)
  (fun b => fun x y tm κ => @Bool.rec (fun _ => R) (opdF y tm κ) (opdF x tm κ) b)
  (fun _ _ => fun _ _ _ _ => none)
  (fun _ => fun _ _ _ _ => none)
  (fun _ _ => fun _ _ _ _ => none)
  (fun _ _ _ _ => none)
  (fun _ _ => fun _ _ _ _ => none)
  (fun _ _ _ _ => none)
  (fun _ _ _ _ _ => fun _ _ _ _ => none)
  (fun _ _ _ _ => none)
  (fun _ => fun _ _ _ _ => none)
  (fun _ _ _ _ _ => fun _ _ _ _ => none)
  (fun _ => fun _ _ _ _ => none)
  (fun _ _ _ _ => none)
  (fun _ _ _ => fun _ _ _ _ => none)
  (fun _ _ _ _ => none)
  (fun _ _ => fun _ _ _ _ => none)
  (fun _ _ => fun _ _ _ _ => none)
  PUnit.unit (fun _ _ _ _ => PUnit.unit) c
theorem pickF_eq (c : AV) (x y : Opd) (tm : T AV) (κ : AV → R) : pickF c x y tm κ = pickK tm c x y κ := by
  cases c
  case bool b => cases b <;> exact opdF_eq _ _ _
  all_goals rfl
noncomputable def cellsF (o : AObj) : (T AV → R) → R := @AObj.rec (fun _ => (T AV → R) → R) (fun t _ _ _ κ => κ t) (fun _ _ _ => none) (fun _ _ _ _ _ => none) (fun _ _ _ _ _ _ _ _ _ => none) (fun _ _ => none) o
noncomputable def loadN (n : Option Nat) : T AV → Nat → (AV → R) → R := @Option.rec Nat (fun _ => T AV → Nat → (AV → R) → R) (fun t o κ => getV t (ix o) κ) (fun n t o κ => gatherK t o n fun l => κ (.agg l)) n
noncomputable def loadF (a : AV) : Option Nat → AW → (AV → R) → R := @AV.rec (fun _ => Option Nat → AW → (AV → R) → R) (fun _ => PUnit)
  (fun _ => fun _ _ _ => none)
  (fun _ _ => fun _ _ _ => none)
  (fun _ => fun _ _ _ => none)
  (fun _ _ => fun _ _ _ => none)
  (fun _ _ _ => none)
  (fun b o => fun n A κ => getO A.heap b fun ob => cellsF ob fun t => loadN n t o κ)
  (fun _ _ _ => none)
  (fun _ _ _ _ _ => fun _ _ _ => none)
  (fun _ _ _ => none)
  (fun _ => fun _ _ _ => none)
  (fun _ _ _ _ _ => fun _ _ _ => none)
  (fun _ => fun _ _ _ => none)
  (fun _ _ _ => none)
  (fun _ _ _ => fun _ _ _ => none)
  (fun _ _ _ => none)
  (fun _ _ => fun _ _ _ => none)
  (fun _ _ => fun _ _ _ => none)
  PUnit.unit (fun _ _ _ _ => PUnit.unit) a
theorem loadF_eq (a : AV) (n : Option Nat) (A : AW) (κ : AV → R) : loadF a n A κ = loadK n a A κ := by
  cases a
  case ptr b o =>
    refine (getO_eq A.heap b _).trans ?_
    simp only [loadK]
    cases A.heap.get b with
    | none => rfl
    | some ob =>
      cases ob
      case cells t n' e cl =>
        cases n with
        | none => exact getV_eq t (ix o) κ
        | some n => rfl
      all_goals rfl
  all_goals rfl
noncomputable def faddrF (a : AV) : Nat → (AV → R) → R := @AV.rec (fun _ => Nat → (AV → R) → R) (fun _ => PUnit)
  (fun _ => fun _ _ => none)
  (fun _ _ => fun _ _ => none)
  (fun _ => fun _ _ => none)
  (fun _ _ => fun _ _ => none)
  (fun _ _ => none)
  (fun b o => fun off κ => natF (Nat.add o off) fun o => κ (.ptr b o))
  (fun _ _ => none)
  (fun _ _ _ _ _ => fun _ _ => none)
  (fun _ _ => none)
  (fun _ => fun _ _ => none)
  (fun _ _ _ _ _ => fun _ _ => none)
  (fun _ => fun _ _ => none)
  (fun _ _ => none)
  (fun _ _ _ => fun _ _ => none)
  (fun _ _ => none)
  (fun _ _ => fun _ _ => none)
  (fun _ _ => fun _ _ => none)
  PUnit.unit (fun _ _ _ _ => PUnit.unit) a
theorem faddrF_eq (a : AV) (off : Nat) (κ : AV → R) : faddrF a off κ = faddrK off a κ := by
  cases a
  case ptr b o => exact natF_eq _ _
  all_goals rfl
noncomputable def idxN (i : Int) : (Nat → R) → R := @Int.rec (fun _ => (Nat → R) → R) (fun n κ => κ n) (fun _ _ => none) i
noncomputable def iaddrF (a : AV) : Nat → AV → (AV → R) → R := @AV.rec (fun _ => Nat → AV → (AV → R) → R) (fun _ => PUnit)
  (fun _ => fun _ _ _ => none)
  (fun _ _ => fun _ _ _ => none)
  (fun _ => fun _ _ _ => none)
  (fun _ _ => fun _ _ _ => none)
  (fun _ _ _ => none)
  (fun _ _ => fun _ _ _ => none)
  (fun _ _ _ => none)
  (fun b o len _ _ => fun sz i κ => asInt i fun _ n => idxN n fun n => @Bool.rec (fun _ => R) none (natF (Nat.add o (Nat.mul n sz)) fun o => κ (.ptr b o)) (Nat.blt n len))
  (fun _ _ _ => none)
  (fun _ => fun _ _ _ => none)
  (fun _ _ _ _ _ => fun _ _ _ => none)
  (fun _ => fun _ _ _ => none)
  (fun _ _ _ => none)
  (fun _ _ _ => fun _ _ _ => none)
  (fun _ _ _ => none)
  (fun _ _ => fun _ _ _ => none)
  (fun _ _ => fun _ _ _ => none)
  PUnit.unit (fun _ _ _ _ => PUnit.unit) a
theorem iaddrF_eq (a : AV) (sz : Nat) (i : AV) (κ : AV → R) : iaddrF a sz i κ = iaddrK sz a i κ := by
  cases a
  case slice b o len cap ex =>
    cases i
    case int k n =>
      cases n with
      | ofNat n =>
        show (@Bool.rec (fun _ => R) none (natF (Nat.add o (Nat.mul n sz)) fun o => κ (.ptr b o)) (Nat.blt n len)) = _
        rw [natF_eq]
        simp only [iaddrK]
        cases Nat.blt n len <;> rfl
      | negSucc n => rfl
    all_goals rfl
  all_goals rfl
noncomputable def iaddrAF (a : AV) : Nat → Nat → AV → (AV → R) → R := @AV.rec (fun _ => Nat → Nat → AV → (AV → R) → R) (fun _ => PUnit)
  (fun _ => fun _ _ _ _ => none)
  (fun _ _ => fun _ _ _ _ => none)
  (fun _ => fun _ _ _ _ => none)
  (fun _ _ => fun _ _ _ _ => none)
  (fun _ _ _ _ => none)
  (fun b o => fun len sz i κ => asInt i fun _ n => idxN n fun n => @Bool.rec (fun _ => R) none (natF (Nat.add o (Nat.mul n sz)) fun o => κ (.ptr b o)) (Nat.blt n len))
  (fun _ _ _ _ => none)
  (fun _ _ _ _ _ => fun _ _ _ _ => none)
  (fun _ _ _ _ => none)
  (fun _ => fun _ _ _ _ => none)
  (fun _ _ _ _ _ => fun _ _ _ _ => none)
  (fun _ => fun _ _ _ _ => none)
  (fun _ _ _ _ => none)
  (fun _ _ _ => fun _ _ _ _ => none)
  (fun _ _ _ _ => none)
  (fun _ _ => fun _ _ _ _ => none)
  (fun _ _ => fun _ _ _ _ => none)
  PUnit.unit (fun _ _ _ _ => PUnit.unit) a
theorem iaddrAF_eq (a : AV) (len sz : Nat) (i : AV) (κ : AV → R) : iaddrAF a len sz i κ = iaddrAK len sz a i κ := by
  cases a
  case ptr b o =>
    cases i
    case int k n =>
      cases n with
      | ofNat n =>
        show (@Bool.rec (fun _ => R) none (natF (Nat.add o (Nat.mul n sz)) fun o => κ (.ptr b o)) (Nat.blt n len)) = _
        rw [natF_eq]
        simp only [iaddrAK]
        cases Nat.blt n len <;> rfl
      | negSucc n => rfl
    all_goals rfl
  all_goals rfl
noncomputable def nilcF (a : AV) : (AV → R) → R := @AV.rec (fun _ => (AV → R) → R) (fun _ => PUnit)
  (fun b => fun κ => κ (.bool b))
  (fun k n => fun κ => κ (.int k n))
  (fun n => fun κ => κ (.ge n))
  (fun n l => fun κ => κ (.str n l))
  (fun _ => none)
  (fun b o => fun κ => κ (.ptr b o))
  (fun κ => κ .nslice)
  (fun b o len cap ex => fun κ => κ (.slice b o len cap ex))
  (fun κ => κ .nmap)
  (fun b => fun κ => κ (.map b))
  (fun f l m _ _ => fun κ => κ (.func f l m))
  (fun b => fun κ => κ (.yield b))
  (fun _ => none)
  (fun t v _ => fun κ => κ (.iface t v))
  (fun _ => none)
  (fun l _ => fun κ => κ (.agg l))
  (fun l _ => fun κ => κ (.tuple l))
  PUnit.unit (fun _ _ _ _ => PUnit.unit) a
theorem nilcF_eq (a : AV) (κ : AV → R) : nilcF a κ = nilcK a κ := by cases a <;> rfl
noncomputable def nthF (l : List Nat) : Nat → (Nat → R) → R := @List.rec Nat (fun _ => Nat → (Nat → R) → R) (fun _ _ => none) (fun a _ ih n κ => @Nat.rec (fun _ => R) (κ a) (fun m _ => ih m κ) n) l
theorem nthF_eq : ∀ (l : List Nat) (n : Nat) (κ : Nat → R), nthF l n κ = (match nthN l n with | some b => κ b | none => none)
  | [], n, κ => rfl
  | a :: l, 0, κ => rfl
  | a :: l, n + 1, κ => nthF_eq l n κ
noncomputable def idxSF (a : AV) : AV → (AV → R) → R := @AV.rec (fun _ => AV → (AV → R) → R) (fun _ => PUnit)
  (fun _ => fun _ _ => none)
  (fun _ _ => fun _ _ => none)
  (fun _ => fun _ _ => none)
  (fun _ l => fun i κ => asInt i fun _ m => idxN m fun m => nthF l m fun b => κ (.int .u8 (.ofNat b)))
  (fun _ _ => none)
  (fun _ _ => fun _ _ => none)
  (fun _ _ => none)
  (fun _ _ _ _ _ => fun _ _ => none)
  (fun _ _ => none)
  (fun _ => fun _ _ => none)
  (fun _ _ _ _ _ => fun _ _ => none)
  (fun _ => fun _ _ => none)
  (fun _ _ => none)
  (fun _ _ _ => fun _ _ => none)
  (fun _ _ => none)
  (fun _ _ => fun _ _ => none)
  (fun _ _ => fun _ _ => none)
  PUnit.unit (fun _ _ _ _ => PUnit.unit) a
theorem idxSF_eq (a i : AV) (κ : AV → R) : idxSF a i κ = idxSK a i κ := by
  cases a
  case str n l =>
    cases i
    case int k m =>
      cases m with
      | ofNat m =>
        refine (nthF_eq l m _).trans ?_
        simp only [idxSK, natK_eq]
        cases nthN l m <;> rfl
      | negSucc m => rfl
    all_goals rfl
  all_goals rfl
noncomputable def rdF (op : ROp) : T AV → AW → (AV → R) → R :=
  @ROp.rec (fun _ => T AV → AW → (AV → R) → R)
    (fun x tm _ κ => opdF x tm κ)
    (fun op x y tm _ κ => opdF x tm fun x => opdF y tm fun y => binF x op y κ)
    (fun c a b tm _ κ => opdF c tm fun c => pickF c a b tm κ)
    (fun n a tm A κ => opdF a tm fun a => loadF a n A κ)
    (fun t x tm A κ => opdF x tm fun x => lenK t x A κ)
    (fun off x tm _ κ => opdF x tm fun x => faddrF x off κ)
    (fun sz x i tm _ κ => opdF x tm fun x => opdF i tm fun i => iaddrF x sz i κ)
    (fun len sz x i tm _ κ => opdF x tm fun x => opdF i tm fun i => iaddrAF x len sz i κ)
    (fun x tm _ κ => opdF x tm fun x => nilcF x κ)
    (fun x i tm _ κ => opdF x tm fun x => opdF i tm fun i => idxSF x i κ)
    (fun op x tm _ κ => opdF x tm fun x => unK op x κ)
    (fun kd x tm _ κ => opdF x tm fun x => convK kd x κ)
    (fun g neg t x y tm A κ => rdK tm A (.eq g neg t x y) κ)
    (fun zs l tm A κ => rdK tm A (.build zs l) κ)
    (fun x i tm A κ => rdK tm A (.extract x i) κ)
    (fun x lo hi tm A κ => rdK tm A (.sliceS x lo hi) κ)
    (fun sz x lo hi mx tm A κ => rdK tm A (.slice sz x lo hi mx) κ)
    (fun x tm A κ => rdK tm A (.b2s x) κ)
    (fun x tm A κ => rdK tm A (.upt x) κ)
    (fun u sz x tm A κ => rdK tm A (.tpt u sz x) κ)
    (fun t x tm A κ => rdK tm A (.mkIface t x) κ)
    (fun f l m tm A κ => rdK tm A (.mkFunc f l m) κ)
    (fun off n x tm A κ => rdK tm A (.field off n x) κ)
    (fun len sz agg x i tm A κ => rdK tm A (.idxA len sz agg x i) κ)
    (fun t z ok x k tm A κ => rdK tm A (.lookup t z ok x k) κ)
    (fun t z ok x tm A κ => rdK tm A (.tassert t z ok x) κ)
    (fun x tm A κ => rdK tm A (.cap x) κ)
    (fun x y tm A κ => rdK tm A (.max x y) κ)
    (fun x y tm A κ => rdK tm A (.min x y) κ)
    (fun x tm A κ => rdK tm A (.sliceData x) κ)
    (fun tm A κ => rdK tm A .bad κ)
    op
theorem rdF_eq (op : ROp) (tm : T AV) (A : AW) (κ : AV → R) : rdF op tm A κ = rdK tm A op κ := by
  cases op
  case mv => exact opdF_eq _ _ _
  case bin op x y => show (opdF x tm fun x => opdF y tm fun y => binF x op y κ) = _; simp only [opdF_eq, binF_eq, rdK]
  case pick c a b => show (opdF c tm fun c => pickF c a b tm κ) = _; simp only [opdF_eq, pickF_eq, rdK]
  case load n a => show (opdF a tm fun a => loadF a n A κ) = _; simp only [opdF_eq, loadF_eq, rdK]
  case len t x => show (opdF x tm fun x => lenK t x A κ) = _; simp only [opdF_eq, rdK]
  case faddr off x => show (opdF x tm fun x => faddrF x off κ) = _; simp only [opdF_eq, faddrF_eq, rdK]
  case iaddr sz x i => show (opdF x tm fun x => opdF i tm fun i => iaddrF x sz i κ) = _; simp only [opdF_eq, iaddrF_eq, rdK]
  case iaddrA len sz x i => show (opdF x tm fun x => opdF i tm fun i => iaddrAF x len sz i κ) = _; simp only [opdF_eq, iaddrAF_eq, rdK]
  case nilc x => show (opdF x tm fun x => nilcF x κ) = _; simp only [opdF_eq, nilcF_eq, rdK]
  case idxS x i => show (opdF x tm fun x => opdF i tm fun i => idxSF x i κ) = _; simp only [opdF_eq, idxSF_eq, rdK]
  case un op x => show (opdF x tm fun x => unK op x κ) = _; simp only [opdF_eq, rdK]
  case conv kd x => show (opdF x tm fun x => convK kd x κ) = _; simp only [opdF_eq, rdK]
  all_goals rfl
noncomputable def rowF (l : List AV) : T AV → Nat → (T AV → R) → R := @List.rec AV (fun _ => T AV → Nat → (T AV → R) → R) (fun t _ k => k t) (fun v _ ih t o k => setV v (ix o) t fun t => ih t (Nat.succ o) k) l
theorem rowF_eq : ∀ (l : List AV) (t : T AV) (o : Nat) (k : T AV → R), rowF l t o k = setRowK t o l k
  | [], t, o, k => rfl
  | v :: l, t, o, k => by
    show (setV v (ix o) t fun t => rowF l t (Nat.succ o) k) = _
    rw [setV_eq]; simp only [setRowK, rowF_eq l]
noncomputable def cleanF (o : AObj) : (T AV → Nat → TypeId → R) → R := @AObj.rec (fun _ => (T AV → Nat → TypeId → R) → R) (fun t n e cl κ => @Bool.rec (fun _ => R) none (κ t n e) cl) (fun _ _ _ => none) (fun _ _ _ _ _ => none) (fun _ _ _ _ _ _ _ _ _ => none) (fun _ _ => none) o
noncomputable def storeRowF (b : Ix) (o : Nat) (l : List AV) (A : AW) (k : AW → R) : R :=
  getO A.heap b fun ob => cleanF ob fun t n e => @Bool.rec (fun _ => R) none (rowF l t o fun t => setO (.cells t n e true) b A.heap fun h => k ⟨h, A.next⟩) (Nat.ble (Nat.add o (lenN l)) n && allCells l)
theorem storeRowF_eq (b : Ix) (o : Nat) (l : List AV) (A : AW) (k : AW → R) : storeRowF b o l A k = storeRowK b o l A k := by
  refine (getO_eq A.heap b _).trans ?_
  unfold storeRowK
  cases A.heap.get b with
  | none => rfl
  | some ob =>
    cases ob
    case cells t n e cl =>
      cases cl with
      | false => rfl
      | true =>
        show (@Bool.rec (fun _ => R) none (rowF l t o fun t => setO (.cells t n e true) b A.heap fun h => k ⟨h, A.next⟩) (Nat.ble (Nat.add o (lenN l)) n && allCells l)) = _
        simp only [rowF_eq, setO_eq]
        show _ = (match (Nat.ble (Nat.add o (lenN l)) n && allCells l) with | true => _ | false => none)
        cases (Nat.ble (Nat.add o (lenN l)) n && allCells l) <;> rfl
    all_goals rfl
noncomputable def storeF (a : AV) : Nat → AV → AW → (AW → R) → R := @AV.rec (fun _ => Nat → AV → AW → (AW → R) → R) (fun _ => PUnit)
  (fun _ => fun _ _ _ _ => none)
  (fun _ _ => fun _ _ _ _ => none)
  (fun _ => fun _ _ _ _ => none)
  (fun _ _ => fun _ _ _ _ => none)
  (fun _ _ _ _ => none)
  (fun b o => fun n x A κ => @Bool.rec (fun _ => R) none (storeRowF b o x.cells A κ) (Nat.beq (lenN x.cells) n))
  (fun _ _ _ _ => none)
  (fun _ _ _ _ _ => fun _ _ _ _ => none)
  (fun _ _ _ _ => none)
  (fun _ => fun _ _ _ _ => none)
  (fun _ _ _ _ _ => fun _ _ _ _ => none)
  (fun _ => fun _ _ _ _ => none)
  (fun _ _ _ _ => none)
  (fun _ _ _ => fun _ _ _ _ => none)
  (fun _ _ _ _ => none)
  (fun _ _ => fun _ _ _ _ => none)
  (fun _ _ => fun _ _ _ _ => none)
  PUnit.unit (fun _ _ _ _ => PUnit.unit) a
theorem storeF_eq (a : AV) (n : Nat) (x : AV) (A : AW) (κ : AW → R) : storeF a n x A κ = storeK n a x A κ := by
  cases a
  case ptr b o =>
    show (@Bool.rec (fun _ => R) none (storeRowF b o x.cells A κ) (Nat.beq (lenN x.cells) n)) = _
    rw [storeRowF_eq]
    simp only [storeK]
    cases Nat.beq (lenN x.cells) n <;> rfl
  all_goals rfl
noncomputable def efF (op : EOp) : T AV → AW → (Option AV → AW → R) → R :=
  @EOp.rec (fun _ => T AV → AW → (Option AV → AW → R) → R)
    (fun n a x tm A κ => opdF a tm fun a => opdF x tm fun x => storeF a n x A fun A => κ none A)
    (fun t m k x tm A κ => efK tm A (.mapSet t m k x) κ)
    (fun e sz bytes x y tm A κ => efK tm A (.append e sz bytes x y) κ)
    (fun e sz bytes zs x n tm A κ => efK tm A (.appendZ e sz bytes zs x n) κ)
    (fun e x tm A κ => efK tm A (.s2b e x) κ)
    (fun e bytes zs len cap tm A κ => efK tm A (.mkSlice e bytes zs len cap) κ)
    (fun sz x y tm A κ => efK tm A (.copy sz x y) κ)
    (fun zs x tm A κ => efK tm A (.clear zs x) κ)
    (fun e x n tm A κ => efK tm A (.ustring e x n) κ)
    (fun x tm A κ => efK tm A (.rangeM x) κ)
    (fun x tm A κ => efK tm A (.next x) κ)
    (fun x tm A κ => efK tm A (.entry x) κ)
    op
theorem efF_eq (op : EOp) (tm : T AV) (A : AW) (κ : Option AV → AW → R) : efF op tm A κ = efK tm A op κ := by
  cases op
  case store n a x => show (opdF a tm fun a => opdF x tm fun x => storeF a n x A fun A => κ none A) = _; simp only [opdF_eq, storeF_eq, efK]
  all_goals rfl
abbrev KS := T AV → AW → List ADef → R
noncomputable def doF (op : AOp) : Bool → CallK AV → T AV → AW → List ADef → (Option AV → AW → List ADef → R) → R :=
  @AOp.rec (fun _ => Bool → CallK AV → T AV → AW → List ADef → (Option AV → AW → List ADef → R) → R)
    (fun o _ _ tm A D k => rdF o tm A fun v => k (some v) A D)
    (fun o rnd call tm A D k => doK rnd call (.b o) tm A D k)
    (fun o _ _ tm A D k => efF o tm A fun v A => k v A D)
    (fun f l _ call tm A D k => opdsF l tm fun vs => call.fn f vs A fun v A => k (some v) A D)
    (fun x l rnd call tm A D k => doK rnd call (.callv x l) tm A D k)
    (fun x l rnd call tm A D k => doK rnd call (.defer x l) tm A D k) op
theorem doF_eq (op : AOp) (rnd : Bool) (call : CallK AV) (tm : T AV) (A : AW) (D : List ADef) (k : Option AV → AW → List ADef → R) : doF op rnd call tm A D k = doK rnd call op tm A D k := by
  cases op
  case r o => exact rdF_eq _ _ _ _
  case e o => exact efF_eq _ _ _ _
  case call f l => exact opdsF_eq _ _ _
  all_goals rfl
noncomputable def undF (v : Option AV) : AV := @Option.rec AV (fun _ => AV) (.tuple []) (fun v => v) v
theorem undF_eq (v : Option AV) : undF v = orUndef v := by cases v <;> rfl
noncomputable def goF (op : AOp) : Option Ix → Bool → CallK AV → T AV → AW → List ADef → KS → R :=
  @AOp.rec (fun _ => Option Ix → Bool → CallK AV → T AV → AW → List ADef → KS → R)
    (fun o dst _ _ tm A D k => rdF o tm A fun v => putV dst v tm fun tm => k tm A D)
    (fun o dst rnd call tm A D k => doK rnd call (.b o) tm A D fun v A D => putV dst (undF v) tm fun tm => k tm A D)
    (fun o dst _ _ tm A D k => efF o tm A fun v A => putV dst (undF v) tm fun tm => k tm A D)
    (fun f l dst _ call tm A D k => opdsF l tm fun vs => call.fn f vs A fun v A => putV dst v tm fun tm => k tm A D)
    (fun x l dst rnd call tm A D k => doK rnd call (.callv x l) tm A D fun v A D => putV dst (undF v) tm fun tm => k tm A D)
    (fun x l dst rnd call tm A D k => doK rnd call (.defer x l) tm A D fun v A D => putV dst (undF v) tm fun tm => k tm A D) op
theorem goF_eq (op : AOp) (dst : Option Ix) (rnd : Bool) (call : CallK AV) (tm : T AV) (A : AW) (D : List ADef) (k : KS) :
    goF op dst rnd call tm A D k = doK rnd call op tm A D fun v A D => putK dst (orUndef v) tm fun tm => k tm A D := by
  cases op
  case r o => refine (rdF_eq _ _ _ _).trans ?_; simp only [doK, putV_eq]; rfl
  case e o => refine (efF_eq _ _ _ _).trans ?_; simp only [doK, putV_eq, undF_eq]
  case call f l => refine (opdsF_eq _ _ _).trans ?_; simp only [doK, putV_eq]; rfl
  case b o => show (doK rnd call (.b o) tm A D fun v A D => putV dst (undF v) tm fun tm => k tm A D) = _; simp only [putV_eq, undF_eq]
  case callv x l => show (doK rnd call (.callv x l) tm A D fun v A D => putV dst (undF v) tm fun tm => k tm A D) = _; simp only [putV_eq, undF_eq]
  case defer x l => show (doK rnd call (.defer x l) tm A D fun v A D => putV dst (undF v) tm fun tm => k tm A D) = _; simp only [putV_eq, undF_eq]
noncomputable def guardF (v : AV) : Bool → R → R → R := @AV.rec (fun _ => Bool → R → R → R) (fun _ => PUnit)
  (fun b => fun g x y => @Bool.rec (fun _ => R) (@Bool.rec (fun _ => R) x y g) (@Bool.rec (fun _ => R) y x g) b)
  (fun _ _ => fun _ _ y => y)
  (fun _ => fun _ _ y => y)
  (fun _ _ => fun _ _ y => y)
  (fun _ _ y => y)
  (fun _ _ => fun _ _ y => y)
  (fun _ _ y => y)
  (fun _ _ _ _ _ => fun _ _ y => y)
  (fun _ _ y => y)
  (fun _ => fun _ _ y => y)
  (fun _ _ _ _ _ => fun _ _ y => y)
  (fun _ => fun _ _ y => y)
  (fun _ _ y => y)
  (fun _ _ _ => fun _ _ y => y)
  (fun _ _ y => y)
  (fun _ _ => fun _ _ y => y)
  (fun _ _ => fun _ _ y => y)
  PUnit.unit (fun _ _ _ _ => PUnit.unit) v
noncomputable def wantF (g : Option (Ix × Bool)) : T AV → R → R → R :=
  @Option.rec (Ix × Bool) (fun _ => T AV → R → R → R) (fun _ x _ => x) (fun p tm x y => @Prod.rec Ix Bool (fun _ => R) (fun i b => getV tm i fun v => guardF v b x y) p) g
theorem wantF_eq (g : Option (Ix × Bool)) (tm : T AV) (k : Bool → R) : wantF g tm (k true) (k false) = wantK tm g k := by
  cases g with
  | none => rfl
  | some p =>
    obtain ⟨i, b⟩ := p
    refine (getV_eq tm i _).trans ?_
    simp only [wantK]
    cases tm.get i with
    | none => rfl
    | some v =>
      cases v
      case bool c => cases c <;> cases b <;> rfl
      all_goals rfl
noncomputable def stepF (it : Item) : Bool → CallK AV → T AV → AW → List ADef → KS → R :=
  @Item.rec (fun _ => Bool → CallK AV → T AV → AW → List ADef → KS → R)
    (fun dst g op rnd call tm A D k => wantF g tm (goF op dst rnd call tm A D k) (putV dst (.tuple []) tm fun tm => k tm A D)) it
theorem stepF_eq (it : Item) (rnd : Bool) (call : CallK AV) (tm : T AV) (A : AW) (D : List ADef) (k : KS) : stepF it rnd call tm A D k = stepK rnd call it tm A D k := by
  obtain ⟨dst, g, op⟩ := it
  show wantF g tm (goF op dst rnd call tm A D k) (putV dst (.tuple []) tm fun tm => k tm A D) = _
  rw [goF_eq, putV_eq]
  unfold stepK
  refine Eq.trans ?_ (wantF_eq g tm _)
  rfl
noncomputable def regF (l : List Item) : Bool → CallK AV → T AV → AW → List ADef → KS → R :=
  @List.rec Item (fun _ => Bool → CallK AV → T AV → AW → List ADef → KS → R) (fun _ _ tm A D k => k tm A D)
    (fun it _ ih rnd call tm A D k => stepF it rnd call tm A D fun tm A D => ih rnd call tm A D k) l
theorem regF_eq : ∀ (l : List Item) (rnd : Bool) (call : CallK AV) (tm : T AV) (A : AW) (D : List ADef) (k : KS), regF l rnd call tm A D k = regK rnd call l tm A D k
  | [], rnd, call, tm, A, D, k => rfl
  | it :: l, rnd, call, tm, A, D, k => by
    show (stepF it rnd call tm A D fun tm A D => regF l rnd call tm A D k) = _
    rw [stepF_eq]; simp only [regK, regF_eq l]
noncomputable def againF (l : List Pend) : Nat → AW → R → R :=
  @List.rec Pend (fun _ => Nat → AW → R → R) (fun _ _ k => k)
    (fun p _ ih b A k => @Bool.rec (fun _ => R) (ih b A k) (rdF p.op p.tm A fun v => @Bool.rec (fun _ => R) none (ih b A k) (beqF 8 p.v v)) (Nat.ble b p.hi)) l
theorem againF_eq : ∀ (l : List Pend) (b : Nat) (A : AW) (k : R), againF l b A k = againK b A l k
  | [], b, A, k => rfl
  | p :: l, b, A, k => by
    show (@Bool.rec (fun _ => R) (againF l b A k) (rdF p.op p.tm A fun v => @Bool.rec (fun _ => R) none (againF l b A k) (beqF 8 p.v v)) (Nat.ble b p.hi)) = _
    simp only [againK, rdF_eq, againF_eq l]
    cases Nat.ble b p.hi
    · rfl
    · show rdK _ _ _ _ = rdK _ _ _ _
      congr 1
      funext v
      cases beqF 8 p.v v <;> rfl
noncomputable def dgoF (op : AOp) : DItem → Bool → CallK AV → T AV → AW → List ADef → List Pend → List (Nat × Ix × AObj) → Nat → (T AV → AW → List ADef → List Pend → List (Nat × Ix × AObj) → Nat → R) → R :=
  @AOp.rec (fun _ => DItem → Bool → CallK AV → T AV → AW → List ADef → List Pend → List (Nat × Ix × AObj) → Nat → (T AV → AW → List ADef → List Pend → List (Nat × Ix × AObj) → Nat → R) → R)
    (fun o d _ _ tm A D ps fl b k => rdF o tm A fun v => putV d.it.dst v tm fun tm' => k tm' A D (⟨o, tm, v, d.hi⟩ :: ps) fl b)
    (fun o d _ _ tm A D ps fl b k => bornK tm o fun ob bv => putV d.it.dst (bv.of A.next) tm fun tm => k tm ⟨A.heap, Ix.succ A.next⟩ D ps ((d.num, A.next, ob) :: fl) b)
    (fun o d rnd call tm A D ps fl b k => absorbK d.ab fl A fun fl A => doF (.e o) rnd call tm A D fun v A D => natF (Nat.succ b) fun b => againF ps b A (putV d.it.dst (undF v) tm fun tm => k tm A D ps fl b))
    (fun f l d rnd call tm A D ps fl b k => absorbK d.ab fl A fun fl A => doF (.call f l) rnd call tm A D fun v A D => natF (Nat.succ b) fun b => againF ps b A (putV d.it.dst (undF v) tm fun tm => k tm A D ps fl b))
    (fun x l d rnd call tm A D ps fl b k => absorbK d.ab fl A fun fl A => doF (.callv x l) rnd call tm A D fun v A D => natF (Nat.succ b) fun b => againF ps b A (putV d.it.dst (undF v) tm fun tm => k tm A D ps fl b))
    (fun x l d rnd call tm A D ps fl b k => absorbK d.ab fl A fun fl A => doF (.defer x l) rnd call tm A D fun v A D => natF (Nat.succ b) fun b => againF ps b A (putV d.it.dst (undF v) tm fun tm => k tm A D ps fl b)) op
noncomputable def drawF (l : List DItem) : Bool → CallK AV → T AV → AW → List ADef → List Pend → List (Nat × Ix × AObj) → Nat → KS → R :=
  @List.rec DItem (fun _ => Bool → CallK AV → T AV → AW → List ADef → List Pend → List (Nat × Ix × AObj) → Nat → KS → R)
    (fun _ _ tm A D _ fl _ k => absorbAll fl A fun A => k tm A D)
    (fun d _ ih rnd call tm A D ps fl b k => wantF d.it.guard tm (dgoF d.it.op d rnd call tm A D ps fl b fun tm A D ps fl b => ih rnd call tm A D ps fl b k) (putV d.it.dst (.tuple []) tm fun tm => ih rnd call tm A D ps fl b k)) l
theorem drawF_eq : ∀ (l : List DItem) (rnd : Bool) (call : CallK AV) (tm : T AV) (A : AW) (D : List ADef) (ps : List Pend) (fl : List (Nat × Ix × AObj)) (b : Nat) (k : KS), drawF l rnd call tm A D ps fl b k = drawK rnd call l tm A D ps fl b k
  | [], rnd, call, tm, A, D, ps, fl, b, k => rfl
  | d :: l, rnd, call, tm, A, D, ps, fl, b, k => by
    have ih := drawF_eq l
    show wantF d.it.guard tm (dgoF d.it.op d rnd call tm A D ps fl b fun tm A D ps fl b => drawF l rnd call tm A D ps fl b k) (putV d.it.dst (.tuple []) tm fun tm => drawF l rnd call tm A D ps fl b k) = _
    simp only [ih, putV_eq]
    simp only [drawK]
    refine Eq.trans ?_ (wantF_eq d.it.guard tm _)
    congr 1
    simp only
    cases hop : d.it.op
    case r o => refine (rdF_eq _ _ _ _).trans ?_; simp only [putV_eq]
    case b o => simp only [dgoF, putV_eq]
    all_goals simp only [dgoF, doF_eq, natF_eq, natK_eq, againF_eq, putV_eq, undF_eq]
structure Ev where
  run : RunK AV
  call : CallK AV
abbrev KE := Ex → T AV → AW → List ADef → R
abbrev CF := Ev → Nat → Bool → T AV → AW → List ADef → KE → R
noncomputable def exF (e : Ex) : R → (Nat → R) → R → R := @Ex.rec (fun _ => R → (Nat → R) → R → R) (fun n _ _ => n) (fun id _ x _ => x id) (fun _ _ r => r) e
noncomputable def condF (v : AV) : R → R → R := @AV.rec (fun _ => R → R → R) (fun _ => PUnit)
  (fun b => fun x y => @Bool.rec (fun _ => R) y x b)
  (fun _ _ => fun _ _ => none)
  (fun _ => fun _ _ => none)
  (fun _ _ => fun _ _ => none)
  (fun _ _ => none)
  (fun _ _ => fun _ _ => none)
  (fun _ _ => none)
  (fun _ _ _ _ _ => fun _ _ => none)
  (fun _ _ => none)
  (fun _ => fun _ _ => none)
  (fun _ _ _ _ _ => fun _ _ => none)
  (fun _ => fun _ _ => none)
  (fun _ _ => none)
  (fun _ _ _ => fun _ _ => none)
  (fun _ _ => none)
  (fun _ _ => fun _ _ => none)
  (fun _ _ => fun _ _ => none)
  PUnit.unit (fun _ _ _ _ => PUnit.unit) v
noncomputable def codeF (c : ACode) : CF :=
  @ACode.rec (fun _ => CF)
    (fun _ _ _ tm A D k => k .normal tm A D)
    (fun l e _ rnd tm A D k => regF l rnd e.call tm A D (k .normal))
    (fun l e _ rnd tm A D k => drawF l rnd e.call tm A D [] [] 0 (k .normal))
    (fun a b _ _ e N rnd tm A D k => e.run N rnd a tm A D fun x tm A D => exF x (e.run N rnd b tm A D k) (fun id => k (.exit id) tm A D) (k .ret tm A D))
    (fun c a b _ _ e N rnd tm A D k => opdF c tm fun v => condF v (e.run N rnd a tm A D k) (e.run N rnd b tm A D k))
    (fun id a _ e N rnd tm A D k => e.run N rnd a tm A D fun x tm A D => exF x (k .normal tm A D) (fun i => @Bool.rec (fun _ => R) (k (.exit i) tm A D) (k .normal tm A D) (Nat.beq i id)) (k .ret tm A D))
    (fun a _ e N rnd tm A D k => e.run N rnd a tm A D fun x tm A D => exF x (e.run N rnd (.loop a) tm A D k) (fun id => k (.exit id) tm A D) (k .ret tm A D))
    (fun id _ _ _ tm A D k => k (.exit id) tm A D)
    (fun _ _ _ tm A D k => k .ret tm A D)
    (fun f ps as bd e N rnd tm A D k => @Bool.rec (fun _ => R) (rangeK N e.call f ps as bd tm A D k) none rnd)
    (fun _ _ _ _ _ _ _ => none) c
theorem codeF_eq (c : ACode) (e : Ev) (N : Nat) (rnd : Bool) (tm : T AV) (A : AW) (D : List ADef) (k : KE) : codeF c e N rnd tm A D k = codeK e.run e.call N rnd c tm A D k := by
  cases c
  case reg l => exact regF_eq _ _ _ _ _ _ _
  case draw l => exact drawF_eq _ _ _ _ _ _ _ _ _ _
  case seq a b =>
    show (e.run N rnd a tm A D fun x tm A D => exF x (e.run N rnd b tm A D k) (fun id => k (.exit id) tm A D) (k .ret tm A D)) = _
    simp only [codeK]; congr 1; funext x tm A D; cases x <;> rfl
  case cond c a b =>
    show (opdF c tm fun v => condF v (e.run N rnd a tm A D k) (e.run N rnd b tm A D k)) = _
    rw [opdF_eq]
    simp only [codeK]; congr 1; funext v
    cases v
    case bool b => cases b <;> rfl
    all_goals rfl
  case block id a =>
    show (e.run N rnd a tm A D fun x tm A D => exF x (k .normal tm A D) (fun i => @Bool.rec (fun _ => R) (k (.exit i) tm A D) (k .normal tm A D) (Nat.beq i id)) (k .ret tm A D)) = _
    simp only [codeK]; congr 1; funext x tm A D
    cases x
    case exit i =>
      show (@Bool.rec (fun _ => R) (k (.exit i) tm A D) (k .normal tm A D) (Nat.beq i id)) = _
      simp only
      cases Nat.beq i id <;> rfl
    all_goals rfl
  case loop a =>
    show (e.run N rnd a tm A D fun x tm A D => exF x (e.run N rnd (.loop a) tm A D k) (fun id => k (.exit id) tm A D) (k .ret tm A D)) = _
    simp only [codeK]; congr 1; funext x tm A D; cases x <;> rfl
  case rangeF f ps as bd => cases rnd <;> rfl
  all_goals rfl
noncomputable def leaveF (call : CallK AV) (D : List ADef) (A : AW) (k : AW → R) : R := @List.rec ADef (fun _ => R) (k A) (fun _ _ _ => leaveK call D A k) D
theorem leaveF_eq (call : CallK AV) (D : List ADef) (A : AW) (k : AW → R) : leaveF call D A k = leaveK call D A k := by cases D <;> rfl
noncomputable def resF1 (r : Res) : T AV → AW → (AV → R) → R := @Res.rec (fun _ => T AV → AW → (AV → R) → R) (fun x tm _ k => getV tm x k) (fun x n tm A k => getV tm x fun a => loadF a n A k) r
noncomputable def resF (l : List Res) : T AV → AW → (List AV → R) → R := @List.rec Res (fun _ => T AV → AW → (List AV → R) → R) (fun _ _ k => k []) (fun r _ ih tm A k => resF1 r tm A fun v => ih tm A fun vs => k (v :: vs)) l
theorem resF_eq : ∀ (l : List Res) (tm : T AV) (A : AW) (k : List AV → R), resF l tm A k = resK tm A l k
  | [], tm, A, k => rfl
  | r :: l, tm, A, k => by
    have ih := resF_eq l
    show (resF1 r tm A fun v => resF l tm A fun vs => k (v :: vs)) = _
    cases r with
    | tmp x =>
      refine (getV_eq tm x _).trans ?_
      simp only [ih, resK]
      cases tm.get x <;> rfl
    | cell x n =>
      refine (getV_eq tm x _).trans ?_
      simp only [ih, resK, loadF_eq]
      cases tm.get x <;> rfl
noncomputable def oneF (l : List AV) (k : AV → R) : R := @List.rec AV (fun _ => R) (k (.tuple [])) (fun v l' _ => @List.rec AV (fun _ => R) (k v) (fun _ _ _ => k (.tuple l)) l') l
noncomputable def resultsF (tm : T AV) (A : AW) (l : List Res) (k : AV → R) : R := resF l tm A fun vs => oneF vs k
theorem resultsF_eq (tm : T AV) (A : AW) (l : List Res) (k : AV → R) : resultsF tm A l k = resultsK tm A l k := by
  unfold resultsF resultsK
  rw [resF_eq]
  congr 1; funext vs
  cases vs with
  | nil => rfl
  | cons v l => cases l <;> rfl
noncomputable def optF {β : Type} (x : Option β) : (β → R) → R := @Option.rec β (fun _ => (β → R) → R) (fun _ => none) (fun v k => k v) x
noncomputable def efnF (T₀ : Tab AV) (e : Ev) (g : FuncId) (args : List AV) (A : AW) (k : AV → AW → R) : R :=
  optF (T₀.fn g) fun fn => rowF args .nil 0 fun tm => e.run fn.ntmps false fn.code tm A [] fun x tm A D => exF x (leaveF e.call D A fun A => resultsF tm A fn.results fun v => k v A) (fun _ => none) (leaveF e.call D A fun A => resultsF tm A fn.results fun v => k v A)
theorem efnF_eq (T₀ : Tab AV) (e : Ev) (g : FuncId) (args : List AV) (A : AW) (k : AV → AW → R) : efnF T₀ e g args A k = efnK T₀ e.run e.call g args A k := by
  unfold efnF efnK
  cases T₀.fn g with
  | none => rfl
  | some fn =>
    show (rowF args .nil 0 fun tm => _) = _
    rw [rowF_eq]
    simp only [leaveF_eq, resultsF_eq]
    congr 1; funext tm; congr 1; funext x tm A D
    cases x <;> rfl
noncomputable def fnF (T₀ : Tab AV) (e : Ev) (g : FuncId) (args : List AV) (A : AW) (k : AV → AW → R) : R := @Bool.rec (fun _ => R) (efnF T₀ e g args A k) (T₀.base g args A k) (T₀.isBase g)
theorem fnF_eq (T₀ : Tab AV) (e : Ev) (g : FuncId) (args : List AV) (A : AW) (k : AV → AW → R) : fnF T₀ e g args A k = fnK T₀ e.run e.call g args A k := by
  unfold fnF fnK
  rw [efnF_eq]
  cases T₀.isBase g <;> rfl
noncomputable def ev (T₀ : Tab AV) (f : Nat) : Ev :=
  @Nat.rec (fun _ => Ev) ⟨fun _ _ _ _ _ _ _ => none, ⟨fun _ _ _ _ => none, fun _ _ _ _ => none, fun _ _ _ _ => none, fun _ _ _ _ => none⟩⟩
    (fun _ e => ⟨fun N rnd c tm A D k => codeF c e N rnd tm A D k, ⟨fnF T₀ e, efnF T₀ e, dfnK T₀ e.run, yieldK T₀ e.run⟩⟩) f
theorem ev_eq (T₀ : Tab AV) : ∀ f, ev T₀ f = ⟨runC T₀ f, ⟨fnC T₀ f, efnC T₀ f, dfnC T₀ f, yieldC T₀ f⟩⟩
  | 0 => by
    have h1 : runC T₀ 0 = fun _ _ _ _ _ _ _ => none := by funext N rnd c tm A D k; simp only [runC]
    have h2 : fnC T₀ 0 = fun _ _ _ _ => none := by funext f a A k; simp only [fnC]
    have h3 : efnC T₀ 0 = fun _ _ _ _ => none := by funext f a A k; simp only [efnC]
    have h4 : dfnC T₀ 0 = fun _ _ _ _ => none := by funext f a A k; simp only [dfnC]
    have h5 : yieldC T₀ 0 = fun _ _ _ _ => none := by funext b a A k; simp only [yieldC]
    rw [h1, h2, h3, h4, h5]; rfl
  | f + 1 => by
    have ih := ev_eq T₀ f
    show (⟨fun N rnd c tm A D k => codeF c (ev T₀ f) N rnd tm A D k, ⟨fnF T₀ (ev T₀ f), efnF T₀ (ev T₀ f), dfnK T₀ (ev T₀ f).run, yieldK T₀ (ev T₀ f).run⟩⟩ : Ev) = _
    rw [ih]
    have h1 : runC T₀ (f + 1) = fun N rnd c tm A D k => codeF c ⟨runC T₀ f, ⟨fnC T₀ f, efnC T₀ f, dfnC T₀ f, yieldC T₀ f⟩⟩ N rnd tm A D k := by funext N rnd c tm A D k; simp only [runC, codeF_eq]
    have h2 : fnC T₀ (f + 1) = fnF T₀ ⟨runC T₀ f, ⟨fnC T₀ f, efnC T₀ f, dfnC T₀ f, yieldC T₀ f⟩⟩ := by funext f a A k; simp only [fnC, fnF_eq]
    have h3 : efnC T₀ (f + 1) = efnF T₀ ⟨runC T₀ f, ⟨fnC T₀ f, efnC T₀ f, dfnC T₀ f, yieldC T₀ f⟩⟩ := by funext f a A k; simp only [efnC, efnF_eq]
    have h4 : dfnC T₀ (f + 1) = dfnK T₀ (runC T₀ f) := by funext f a A k; simp only [dfnC]
    have h5 : yieldC T₀ (f + 1) = yieldK T₀ (runC T₀ f) := by funext b a A k; simp only [yieldC]
    rw [h1, h2, h3, h4, h5]
theorem efn_of {T₀ : Tab AV} {f : Nat} {g : FuncId} {args : List AV} {A : AW} {k : AV → AW → R} {r : R} (h : (ev T₀ f).call.efn g args A k = r) : efnC T₀ f g args A k = r := by
  rw [ev_eq] at h; exact h
end Go.Abs.F
end
section
namespace Go.Abs.Tabs
open Go Go.Abs
def rfs : Code → List (Code × Code)
  | .seq a b => rfs a ++ rfs b
  | .cond _ a b => rfs a ++ rfs b
  | .block _ c => rfs c
  | .loop c => rfs c
  | .rangeFunc _ _ a b => [(a, b)]
  | _ => []
def bodyOf (P : Program) (f : Nat) : Code := match P.funcs[f]? with
  | some fn => (match fn.body with
    | some c => c
    | none => .skip)
  | none => .skip
def rfNth : List (Code × Code) → Nat → Code × Code
  | [], _ => (.skip, .skip)
  | x :: _, 0 => x
  | _ :: l, n + 1 => rfNth l n
def rfAs (P : Program) (f n : Nat) : Code := (rfNth (rfs (bodyOf P f)) n).1
def rfBd (P : Program) (f n : Nat) : Code := (rfNth (rfs (bodyOf P f)) n).2
inductive BT where
  | leaf (g : Nat) (f : AFunc)
  | node (key : Nat) (l r : BT)
noncomputable def BT.get (t : BT) : Nat → Option AFunc :=
  @BT.rec (fun _ => Nat → Option AFunc) (fun h f g => @Bool.rec (fun _ => Option AFunc) none (some f) (Nat.beq g h)) (fun key _ _ il ir g => @Bool.rec (fun _ => Option AFunc) (ir g) (il g) (Nat.blt g key)) t
def BT.Ok (P : Program) (ng : Nat) : BT → Prop
  | .leaf g f => compFn P ng g = some f
  | .node _ l r => l.Ok P ng ∧ r.Ok P ng
theorem BT.get_ok {P : Program} {ng : Nat} : ∀ {t : BT}, t.Ok P ng → ∀ g f, t.get g = some f → compFn P ng g = some f
  | .leaf h f', ok, g, f, hg0 => by
    have hg : @Bool.rec (fun _ => Option AFunc) none (some f') (Nat.beq g h) = some f := hg0
    clear hg0
    cases hb : Nat.beq g h
    · rw [hb] at hg; cases hg
    · rw [hb] at hg
      have he : f' = f := Option.some.inj hg
      subst he
      rw [Nat.eq_of_beq_eq_true hb]
      exact ok
  | .node key l r, ok, g, f, hg0 => by
    have hg : @Bool.rec (fun _ => Option AFunc) (r.get g) (l.get g) (Nat.blt g key) = some f := hg0
    clear hg0
    cases hb : Nat.blt g key
    · rw [hb] at hg; exact BT.get_ok ok.2 g f hg
    · rw [hb] at hg; exact BT.get_ok ok.1 g f hg
end Go.Abs.Tabs
namespace Go.Abs.Tabs
open Go.Abs
def x0 : Ix := .e
def x1 : Ix := .o .e
def x2 : Ix := .i .e
def x3 : Ix := .o (.o .e)
def x4 : Ix := .i (.o .e)
def x5 : Ix := .o (.i .e)
def x6 : Ix := .i (.i .e)
def x7 : Ix := .o (.o (.o .e))
def x8 : Ix := .i (.o (.o .e))
def x9 : Ix := .o (.i (.o .e))
def x10 : Ix := .i (.i (.o .e))
def x11 : Ix := .o (.o (.i .e))
def x12 : Ix := .i (.o (.i .e))
def x13 : Ix := .o (.i (.i .e))
def x14 : Ix := .i (.i (.i .e))
def x15 : Ix := .o (.o (.o (.o .e)))
def x16 : Ix := .i (.o (.o (.o .e)))
def x17 : Ix := .o (.i (.o (.o .e)))
def x18 : Ix := .i (.i (.o (.o .e)))
def x19 : Ix := .o (.o (.i (.o .e)))
def x20 : Ix := .i (.o (.i (.o .e)))
def x21 : Ix := .o (.i (.i (.o .e)))
def x22 : Ix := .i (.i (.i (.o .e)))
def x23 : Ix := .o (.o (.o (.i .e)))
def x24 : Ix := .i (.o (.o (.i .e)))
def x25 : Ix := .o (.i (.o (.i .e)))
def x26 : Ix := .i (.i (.o (.i .e)))
def x27 : Ix := .o (.o (.i (.i .e)))
def x28 : Ix := .i (.o (.i (.i .e)))
def x29 : Ix := .o (.i (.i (.i .e)))
def x30 : Ix := .i (.i (.i (.i .e)))
def x31 : Ix := .o (.o (.o (.o (.o .e))))
def x32 : Ix := .i (.o (.o (.o (.o .e))))
def x33 : Ix := .o (.i (.o (.o (.o .e))))
def x34 : Ix := .i (.i (.o (.o (.o .e))))
def x35 : Ix := .o (.o (.i (.o (.o .e))))
def x36 : Ix := .i (.o (.i (.o (.o .e))))
def x37 : Ix := .o (.i (.i (.o (.o .e))))
def x38 : Ix := .i (.i (.i (.o (.o .e))))
def x39 : Ix := .o (.o (.o (.i (.o .e))))
def x40 : Ix := .i (.o (.o (.i (.o .e))))
def x41 : Ix := .o (.i (.o (.i (.o .e))))
def x42 : Ix := .i (.i (.o (.i (.o .e))))
def x43 : Ix := .o (.o (.i (.i (.o .e))))
def x44 : Ix := .i (.o (.i (.i (.o .e))))
def x45 : Ix := .o (.i (.i (.i (.o .e))))
def x46 : Ix := .i (.i (.i (.i (.o .e))))
def x47 : Ix := .o (.o (.o (.o (.i .e))))
def x48 : Ix := .i (.o (.o (.o (.i .e))))
def x49 : Ix := .o (.i (.o (.o (.i .e))))
def x50 : Ix := .i (.i (.o (.o (.i .e))))
def x51 : Ix := .o (.o (.i (.o (.i .e))))
def x52 : Ix := .i (.o (.i (.o (.i .e))))
def x53 : Ix := .o (.i (.i (.o (.i .e))))
def x54 : Ix := .i (.i (.i (.o (.i .e))))
def x55 : Ix := .o (.o (.o (.i (.i .e))))
def x56 : Ix := .i (.o (.o (.i (.i .e))))
def x57 : Ix := .o (.i (.o (.i (.i .e))))
def x58 : Ix := .i (.i (.o (.i (.i .e))))
def x59 : Ix := .o (.o (.i (.i (.i .e))))
def x60 : Ix := .i (.o (.i (.i (.i .e))))
def x61 : Ix := .o (.i (.i (.i (.i .e))))
def x62 : Ix := .i (.i (.i (.i (.i .e))))
def x63 : Ix := .o (.o (.o (.o (.o (.o .e)))))
def x64 : Ix := .i (.o (.o (.o (.o (.o .e)))))
def x65 : Ix := .o (.i (.o (.o (.o (.o .e)))))
def x66 : Ix := .i (.i (.o (.o (.o (.o .e)))))
def x67 : Ix := .o (.o (.i (.o (.o (.o .e)))))
def x68 : Ix := .i (.o (.i (.o (.o (.o .e)))))
def x69 : Ix := .o (.i (.i (.o (.o (.o .e)))))
def x70 : Ix := .i (.i (.i (.o (.o (.o .e)))))
def x71 : Ix := .o (.o (.o (.i (.o (.o .e)))))
def x72 : Ix := .i (.o (.o (.i (.o (.o .e)))))
def x73 : Ix := .o (.i (.o (.i (.o (.o .e)))))
def x74 : Ix := .i (.i (.o (.i (.o (.o .e)))))
def x75 : Ix := .o (.o (.i (.i (.o (.o .e)))))
def x76 : Ix := .i (.o (.i (.i (.o (.o .e)))))
def x77 : Ix := .o (.i (.i (.i (.o (.o .e)))))
def x78 : Ix := .i (.i (.i (.i (.o (.o .e)))))
def x79 : Ix := .o (.o (.o (.o (.i (.o .e)))))
def x80 : Ix := .i (.o (.o (.o (.i (.o .e)))))
def x81 : Ix := .o (.i (.o (.o (.i (.o .e)))))
def x82 : Ix := .i (.i (.o (.o (.i (.o .e)))))
def x83 : Ix := .o (.o (.i (.o (.i (.o .e)))))
def x84 : Ix := .i (.o (.i (.o (.i (.o .e)))))
def x85 : Ix := .o (.i (.i (.o (.i (.o .e)))))
def x86 : Ix := .i (.i (.i (.o (.i (.o .e)))))
def x87 : Ix := .o (.o (.o (.i (.i (.o .e)))))
def x88 : Ix := .i (.o (.o (.i (.i (.o .e)))))
def x89 : Ix := .o (.i (.o (.i (.i (.o .e)))))
def x90 : Ix := .i (.i (.o (.i (.i (.o .e)))))
def x91 : Ix := .o (.o (.i (.i (.i (.o .e)))))
def x92 : Ix := .i (.o (.i (.i (.i (.o .e)))))
def x93 : Ix := .o (.i (.i (.i (.i (.o .e)))))
def x94 : Ix := .i (.i (.i (.i (.i (.o .e)))))
def x95 : Ix := .o (.o (.o (.o (.o (.i .e)))))
def x96 : Ix := .i (.o (.o (.o (.o (.i .e)))))
def x97 : Ix := .o (.i (.o (.o (.o (.i .e)))))
def x98 : Ix := .i (.i (.o (.o (.o (.i .e)))))
def x99 : Ix := .o (.o (.i (.o (.o (.i .e)))))
def x100 : Ix := .i (.o (.i (.o (.o (.i .e)))))
def x101 : Ix := .o (.i (.i (.o (.o (.i .e)))))
def x102 : Ix := .i (.i (.i (.o (.o (.i .e)))))
def x103 : Ix := .o (.o (.o (.i (.o (.i .e)))))
def x104 : Ix := .i (.o (.o (.i (.o (.i .e)))))
def x105 : Ix := .o (.i (.o (.i (.o (.i .e)))))
def x106 : Ix := .i (.i (.o (.i (.o (.i .e)))))
def x107 : Ix := .o (.o (.i (.i (.o (.i .e)))))
def x108 : Ix := .i (.o (.i (.i (.o (.i .e)))))
def x109 : Ix := .o (.i (.i (.i (.o (.i .e)))))
def x110 : Ix := .i (.i (.i (.i (.o (.i .e)))))
def x111 : Ix := .o (.o (.o (.o (.i (.i .e)))))
def x112 : Ix := .i (.o (.o (.o (.i (.i .e)))))
def x113 : Ix := .o (.i (.o (.o (.i (.i .e)))))
def x114 : Ix := .i (.i (.o (.o (.i (.i .e)))))
def x115 : Ix := .o (.o (.i (.o (.i (.i .e)))))
def x116 : Ix := .i (.o (.i (.o (.i (.i .e)))))
def x117 : Ix := .o (.i (.i (.o (.i (.i .e)))))
def x118 : Ix := .i (.i (.i (.o (.i (.i .e)))))
def x119 : Ix := .o (.o (.o (.i (.i (.i .e)))))
def x120 : Ix := .i (.o (.o (.i (.i (.i .e)))))
def x121 : Ix := .o (.i (.o (.i (.i (.i .e)))))
def x122 : Ix := .i (.i (.o (.i (.i (.i .e)))))
def x123 : Ix := .o (.o (.i (.i (.i (.i .e)))))
def x124 : Ix := .i (.o (.i (.i (.i (.i .e)))))
def x125 : Ix := .o (.i (.i (.i (.i (.i .e)))))
def x126 : Ix := .i (.i (.i (.i (.i (.i .e)))))
def x127 : Ix := .o (.o (.o (.o (.o (.o (.o .e))))))
def x128 : Ix := .i (.o (.o (.o (.o (.o (.o .e))))))
def x129 : Ix := .o (.i (.o (.o (.o (.o (.o .e))))))
def x130 : Ix := .i (.i (.o (.o (.o (.o (.o .e))))))
def x131 : Ix := .o (.o (.i (.o (.o (.o (.o .e))))))
def x132 : Ix := .i (.o (.i (.o (.o (.o (.o .e))))))
def x133 : Ix := .o (.i (.i (.o (.o (.o (.o .e))))))
def x134 : Ix := .i (.i (.i (.o (.o (.o (.o .e))))))
def x135 : Ix := .o (.o (.o (.i (.o (.o (.o .e))))))
def x136 : Ix := .i (.o (.o (.i (.o (.o (.o .e))))))
def x137 : Ix := .o (.i (.o (.i (.o (.o (.o .e))))))
def x138 : Ix := .i (.i (.o (.i (.o (.o (.o .e))))))
def x139 : Ix := .o (.o (.i (.i (.o (.o (.o .e))))))
def x140 : Ix := .i (.o (.i (.i (.o (.o (.o .e))))))
def x141 : Ix := .o (.i (.i (.i (.o (.o (.o .e))))))
def x142 : Ix := .i (.i (.i (.i (.o (.o (.o .e))))))
def x143 : Ix := .o (.o (.o (.o (.i (.o (.o .e))))))
def x144 : Ix := .i (.o (.o (.o (.i (.o (.o .e))))))
def x145 : Ix := .o (.i (.o (.o (.i (.o (.o .e))))))
def x146 : Ix := .i (.i (.o (.o (.i (.o (.o .e))))))
def x147 : Ix := .o (.o (.i (.o (.i (.o (.o .e))))))
def x148 : Ix := .i (.o (.i (.o (.i (.o (.o .e))))))
def x149 : Ix := .o (.i (.i (.o (.i (.o (.o .e))))))
def x150 : Ix := .i (.i (.i (.o (.i (.o (.o .e))))))
def x151 : Ix := .o (.o (.o (.i (.i (.o (.o .e))))))
def x152 : Ix := .i (.o (.o (.i (.i (.o (.o .e))))))
def x153 : Ix := .o (.i (.o (.i (.i (.o (.o .e))))))
def x154 : Ix := .i (.i (.o (.i (.i (.o (.o .e))))))
def x155 : Ix := .o (.o (.i (.i (.i (.o (.o .e))))))
def x156 : Ix := .i (.o (.i (.i (.i (.o (.o .e))))))
def x157 : Ix := .o (.i (.i (.i (.i (.o (.o .e))))))
def x158 : Ix := .i (.i (.i (.i (.i (.o (.o .e))))))
def x159 : Ix := .o (.o (.o (.o (.o (.i (.o .e))))))
def x160 : Ix := .i (.o (.o (.o (.o (.i (.o .e))))))
def x161 : Ix := .o (.i (.o (.o (.o (.i (.o .e))))))
def x162 : Ix := .i (.i (.o (.o (.o (.i (.o .e))))))
def x163 : Ix := .o (.o (.i (.o (.o (.i (.o .e))))))
def x164 : Ix := .i (.o (.i (.o (.o (.i (.o .e))))))
def x165 : Ix := .o (.i (.i (.o (.o (.i (.o .e))))))
def x166 : Ix := .i (.i (.i (.o (.o (.i (.o .e))))))
def x167 : Ix := .o (.o (.o (.i (.o (.i (.o .e))))))
def x168 : Ix := .i (.o (.o (.i (.o (.i (.o .e))))))
def x169 : Ix := .o (.i (.o (.i (.o (.i (.o .e))))))
def x170 : Ix := .i (.i (.o (.i (.o (.i (.o .e))))))
def x171 : Ix := .o (.o (.i (.i (.o (.i (.o .e))))))
def x172 : Ix := .i (.o (.i (.i (.o (.i (.o .e))))))
def x173 : Ix := .o (.i (.i (.i (.o (.i (.o .e))))))
def x174 : Ix := .i (.i (.i (.i (.o (.i (.o .e))))))
def x175 : Ix := .o (.o (.o (.o (.i (.i (.o .e))))))
def x176 : Ix := .i (.o (.o (.o (.i (.i (.o .e))))))
def x177 : Ix := .o (.i (.o (.o (.i (.i (.o .e))))))
def x178 : Ix := .i (.i (.o (.o (.i (.i (.o .e))))))
def x179 : Ix := .o (.o (.i (.o (.i (.i (.o .e))))))
def x180 : Ix := .i (.o (.i (.o (.i (.i (.o .e))))))
def x181 : Ix := .o (.i (.i (.o (.i (.i (.o .e))))))
def x182 : Ix := .i (.i (.i (.o (.i (.i (.o .e))))))
def x183 : Ix := .o (.o (.o (.i (.i (.i (.o .e))))))
def x184 : Ix := .i (.o (.o (.i (.i (.i (.o .e))))))
def x185 : Ix := .o (.i (.o (.i (.i (.i (.o .e))))))
def x186 : Ix := .i (.i (.o (.i (.i (.i (.o .e))))))
def x187 : Ix := .o (.o (.i (.i (.i (.i (.o .e))))))
def x188 : Ix := .i (.o (.i (.i (.i (.i (.o .e))))))
def x189 : Ix := .o (.i (.i (.i (.i (.i (.o .e))))))
def x190 : Ix := .i (.i (.i (.i (.i (.i (.o .e))))))
def x191 : Ix := .o (.o (.o (.o (.o (.o (.i .e))))))
def x192 : Ix := .i (.o (.o (.o (.o (.o (.i .e))))))
def x193 : Ix := .o (.i (.o (.o (.o (.o (.i .e))))))
def x194 : Ix := .i (.i (.o (.o (.o (.o (.i .e))))))
def x195 : Ix := .o (.o (.i (.o (.o (.o (.i .e))))))
def x196 : Ix := .i (.o (.i (.o (.o (.o (.i .e))))))
def x197 : Ix := .o (.i (.i (.o (.o (.o (.i .e))))))
def x198 : Ix := .i (.i (.i (.o (.o (.o (.i .e))))))
def x199 : Ix := .o (.o (.o (.i (.o (.o (.i .e))))))
def x200 : Ix := .i (.o (.o (.i (.o (.o (.i .e))))))
def x201 : Ix := .o (.i (.o (.i (.o (.o (.i .e))))))
def x202 : Ix := .i (.i (.o (.i (.o (.o (.i .e))))))
def x203 : Ix := .o (.o (.i (.i (.o (.o (.i .e))))))
def x204 : Ix := .i (.o (.i (.i (.o (.o (.i .e))))))
def x205 : Ix := .o (.i (.i (.i (.o (.o (.i .e))))))
def x206 : Ix := .i (.i (.i (.i (.o (.o (.i .e))))))
def x207 : Ix := .o (.o (.o (.o (.i (.o (.i .e))))))
def x208 : Ix := .i (.o (.o (.o (.i (.o (.i .e))))))
def x209 : Ix := .o (.i (.o (.o (.i (.o (.i .e))))))
def x210 : Ix := .i (.i (.o (.o (.i (.o (.i .e))))))
def x211 : Ix := .o (.o (.i (.o (.i (.o (.i .e))))))
def x212 : Ix := .i (.o (.i (.o (.i (.o (.i .e))))))
def x213 : Ix := .o (.i (.i (.o (.i (.o (.i .e))))))
def x214 : Ix := .i (.i (.i (.o (.i (.o (.i .e))))))
def x215 : Ix := .o (.o (.o (.i (.i (.o (.i .e))))))
def x216 : Ix := .i (.o (.o (.i (.i (.o (.i .e))))))
def x217 : Ix := .o (.i (.o (.i (.i (.o (.i .e))))))
def x218 : Ix := .i (.i (.o (.i (.i (.o (.i .e))))))
def x219 : Ix := .o (.o (.i (.i (.i (.o (.i .e))))))
def x220 : Ix := .i (.o (.i (.i (.i (.o (.i .e))))))
def x221 : Ix := .o (.i (.i (.i (.i (.o (.i .e))))))
def x222 : Ix := .i (.i (.i (.i (.i (.o (.i .e))))))
def x223 : Ix := .o (.o (.o (.o (.o (.i (.i .e))))))
def x224 : Ix := .i (.o (.o (.o (.o (.i (.i .e))))))
def x225 : Ix := .o (.i (.o (.o (.o (.i (.i .e))))))
def x226 : Ix := .i (.i (.o (.o (.o (.i (.i .e))))))
def x227 : Ix := .o (.o (.i (.o (.o (.i (.i .e))))))
def x228 : Ix := .i (.o (.i (.o (.o (.i (.i .e))))))
def x229 : Ix := .o (.i (.i (.o (.o (.i (.i .e))))))
def x230 : Ix := .i (.i (.i (.o (.o (.i (.i .e))))))
def x231 : Ix := .o (.o (.o (.i (.o (.i (.i .e))))))
def x232 : Ix := .i (.o (.o (.i (.o (.i (.i .e))))))
def x233 : Ix := .o (.i (.o (.i (.o (.i (.i .e))))))
def x234 : Ix := .i (.i (.o (.i (.o (.i (.i .e))))))
def x235 : Ix := .o (.o (.i (.i (.o (.i (.i .e))))))
def x236 : Ix := .i (.o (.i (.i (.o (.i (.i .e))))))
def x237 : Ix := .o (.i (.i (.i (.o (.i (.i .e))))))
def x238 : Ix := .i (.i (.i (.i (.o (.i (.i .e))))))
def x239 : Ix := .o (.o (.o (.o (.i (.i (.i .e))))))
def x240 : Ix := .i (.o (.o (.o (.i (.i (.i .e))))))
def x241 : Ix := .o (.i (.o (.o (.i (.i (.i .e))))))
def x242 : Ix := .i (.i (.o (.o (.i (.i (.i .e))))))
def x243 : Ix := .o (.o (.i (.o (.i (.i (.i .e))))))
def x244 : Ix := .i (.o (.i (.o (.i (.i (.i .e))))))
def x245 : Ix := .o (.i (.i (.o (.i (.i (.i .e))))))
def x246 : Ix := .i (.i (.i (.o (.i (.i (.i .e))))))
def x247 : Ix := .o (.o (.o (.i (.i (.i (.i .e))))))
def x248 : Ix := .i (.o (.o (.i (.i (.i (.i .e))))))
def x249 : Ix := .o (.i (.o (.i (.i (.i (.i .e))))))
def x250 : Ix := .i (.i (.o (.i (.i (.i (.i .e))))))
def x251 : Ix := .o (.o (.i (.i (.i (.i (.i .e))))))
def x252 : Ix := .i (.o (.i (.i (.i (.i (.i .e))))))
def x253 : Ix := .o (.i (.i (.i (.i (.i (.i .e))))))
def x254 : Ix := .i (.i (.i (.i (.i (.i (.i .e))))))
def x255 : Ix := .o (.o (.o (.o (.o (.o (.o (.o .e)))))))
def x256 : Ix := .i (.o (.o (.o (.o (.o (.o (.o .e)))))))
def x257 : Ix := .o (.i (.o (.o (.o (.o (.o (.o .e)))))))
def x258 : Ix := .i (.i (.o (.o (.o (.o (.o (.o .e)))))))
def x259 : Ix := .o (.o (.i (.o (.o (.o (.o (.o .e)))))))
end Go.Abs.Tabs
end
section
namespace Go.Abs
variable {P : Program} {ng : Nat}
theorem Ext.sub {X : Ctx} {σ : Sig} {A : AW} {w : World} (h : WRel X σ A w) {B : AW} (hh : ∀ a o, B.heap.get a = some o → A.heap.get a = some o) (hn : B.next = A.next) : Go.Abs.Ext X σ A w σ B w :=
  ⟨Sig.le_refl _, ⟨fun b q hb => h.live b q (hh b q hb), h.size, fun b b' q q' d hb hb' => h.inj b b' q q' d (hh b q hb) (hh b' q' hb'), fun a ha => h.fresh a (by rw [← hn]; exact ha), h.range, h.glob⟩,
    ⟨Nat.le_refl _, fun _ _ _ => rfl, fun d ⟨b, q, hb, hd⟩ => .inl ⟨b, q, hh b q hb, hd⟩, (fun a c h h' => by simp [h] at h'), fun _ _ => rfl, (by rw [hn]; exact Nat.le_refl _), rfl, rfl, rfl⟩⟩
def eqO {α : Type} (f : α → α → Bool) : Option α → Option α → Bool
  | none, none => true
  | some a, some b => f a b
  | _, _ => false
def eqT {α : Type} (f : α → α → Bool) : T α → T α → Bool
  | .nil, .nil => true
  | .node v l r, .node v' l' r' => eqO f v v' && eqT f l l' && eqT f r r'
  | _, _ => false
theorem eqT_eq {α : Type} {f : α → α → Bool} (hf : ∀ a b, f a b = true → a = b) : ∀ {s t : T α}, eqT f s t = true → s = t
  | .nil, .nil, _ => rfl
  | .nil, .node _ _ _, h => by cases h
  | .node _ _ _, .nil, h => by cases h
  | .node v l r, .node v' l' r', h => by
    simp only [eqT, Bool.and_eq_true] at h
    have hv : v = v' := by
      have := h.1.1
      cases v <;> cases v' <;> first | rfl | (cases this; done) | (rw [hf _ _ this])
    rw [hv, eqT_eq hf h.1.2, eqT_eq hf h.2]
def eqE (a b : AV × AV × Nat) : Bool := beqF 8 a.1 b.1 && beqF 8 a.2.1 b.2.1 && Nat.beq a.2.2 b.2.2
theorem eqE_eq {a b : AV × AV × Nat} (h : eqE a b = true) : a = b := by
  obtain ⟨a1, a2, a3⟩ := a
  obtain ⟨b1, b2, b3⟩ := b
  simp only [eqE, Bool.and_eq_true] at h
  rw [beqF_eq _ _ _ h.1.1, beqF_eq _ _ _ h.1.2, Nat.eq_of_beq_eq_true h.2]
def eqEs : List (AV × AV × Nat) → List (AV × AV × Nat) → Bool
  | [], [] => true
  | a :: l, b :: m => eqE a b && eqEs l m
  | _, _ => false
theorem eqEs_eq : ∀ {l m : List (AV × AV × Nat)}, eqEs l m = true → l = m
  | [], [], _ => rfl
  | [], _ :: _, h => by cases h
  | _ :: _, [], h => by cases h
  | a :: l, b :: m, h => by
    simp only [eqEs, Bool.and_eq_true] at h
    rw [eqE_eq h.1, eqEs_eq h.2]
theorem beqB_eq2 {a b : Bool} (h : beqB a b = true) : a = b := by rw [beqB_eq] at h; exact eq_of_beq h
def eqObj : AObj → AObj → Bool
  | .cells t n e c, .cells t' n' e' c' => eqT (beqF 8) t t' && Nat.beq n n' && Nat.beq e e' && beqB c c'
  | .map es k, .map es' k' => eqEs es es' && Nat.beq k k'
  | .dfr b, .dfr b' => beqB b b'
  | _, _ => false
theorem eqObj_eq {a b : AObj} (h : eqObj a b = true) : a = b := by
  cases a <;> cases b <;> simp only [eqObj, Bool.and_eq_true] at h <;> first | (cases h; done) | skip
  · rw [eqT_eq (beqF_eq 8) h.1.1.1, Nat.eq_of_beq_eq_true h.1.1.2, Nat.eq_of_beq_eq_true h.1.2, beqB_eq2 h.2]
  · rw [eqEs_eq h.1, Nat.eq_of_beq_eq_true h.2]
  · rw [beqB_eq2 h]
def subT : T AObj → T AObj → Bool
  | .nil, _ => true
  | .node v l r, .nil => (match v with
    | none => true
    | some _ => false) && subT l .nil && subT r .nil
  | .node v l r, .node v' l' r' => (match v with
    | none => true
    | some a => (match v' with
      | some b => eqObj a b
      | none => false)) && subT l l' && subT r r'
theorem subT_ok : ∀ {s t : T AObj}, subT s t = true → ∀ a o, s.get a = some o → t.get a = some o
  | .nil, t, _, a, o, h => by simp at h
  | .node v l r, .nil, h, a, o, ha => by
    simp only [subT, Bool.and_eq_true] at h
    cases a with
    | e =>
      have ha : v = some o := ha
      subst ha
      exact absurd h.1.1 (by simp)
    | o x => exact (by simpa using subT_ok h.1.2 x o ha : False).elim
    | i x => exact (by simpa using subT_ok h.2 x o ha : False).elim
  | .node v l r, .node v' l' r', h, a, o, ha => by
    simp only [subT, Bool.and_eq_true] at h
    cases a with
    | e =>
      have ha : v = some o := ha
      subst ha
      have h1 := h.1.1
      simp only at h1
      cases v' with
      | none => cases h1
      | some b => rw [eqObj_eq h1]; rfl
    | o x => exact subT_ok h.1.2 x o ha
    | i x => exact subT_ok h.2 x o ha
structure Sum where
  g : FuncId
  args : List AV
  A : AW
  v : AV
  B : AW
def Sum.fits (s : Sum) (args : List AV) (A : AW) : Bool := beqL (beqF 8) s.args args && Ix.beq s.A.next A.next && subT s.A.heap A.heap
def Sum.ends (s : Sum) (v : AV) (A : AW) : Bool := beqF 8 s.v v && Ix.beq s.B.next A.next && subT s.B.heap A.heap
def Sum.k (s : Sum) (v : AV) (A : AW) : Option AV := match s.ends v A with
  | true => some (.bool true)
  | false => none
theorem Sum.ok {T₀ : Tab AV} (hm : P.follows .mixedOrders = true) (hT : TabOk P ng T₀) {s : Sum} {f : Nat} {r : AV} (h : (F.ev T₀ f).call.efn s.g s.args s.A s.k = some r) {args : List AV} {A : AW} (hf : s.fits args A = true) :
    FnRun (ctx P ng) s.g args A s.v s.B := by
  have h := F.efn_of h
  obtain ⟨v, A', hk, hfn, hv⟩ := (sound hm hT f).2.efn _ _ _ _ _ h
  have he : s.ends v A' = true := by
    unfold Sum.k at hk
    split at hk
    · assumption
    · cases hk
  simp only [Sum.ends, Bool.and_eq_true] at he
  simp only [Sum.fits, Bool.and_eq_true] at hf
  obtain ⟨⟨e1, e2⟩, e3⟩ := he
  obtain ⟨⟨f1, f2⟩, f3⟩ := hf
  have e1 := beqF_eq _ _ _ e1
  have e2 := Ix.beq_eq e2
  have f1 := beqL_eq (beqF_eq 8) f1
  have f2 := Ix.beq_eq f2
  subst e1 f1
  intro σ w args' hw ha
  have hE0 := Ext.sub hw (subT_ok f3) f2
  refine .inl ⟨hfn, (hv σ w args' hE0.rel ha).mono ?_⟩
  rintro e w' ⟨v', σ', rfl, hE, hr⟩
  exact ⟨v', σ', rfl, (hE0.trans hE).trans (Ext.sub hE.rel (subT_ok e3) e2), hr⟩
end Go.Abs
end
section
namespace Go.Abs
variable {P : Program} {ng : Nat}
abbrev BaseK := FuncId → List AV → AW → (AV → AW → Option AV) → Option AV
abbrev DBaseK := FuncId → List AV → AW → (AW → Option AV) → Option AV
def inSums (g : FuncId) : List Sum → Bool
  | [] => false
  | s :: l => Nat.beq s.g g || inSums g l
def sumK (g : FuncId) (args : List AV) (A : AW) (k : AV → AW → Option AV) (z : Option AV) : List Sum → Option AV
  | [] => z
  | s :: l => (match Nat.beq s.g g with
    | true => (match s.fits args A with
      | true => k s.v s.B
      | false => sumK g args A k z l)
    | false => sumK g args A k z l)
noncomputable def mkTab (P : Program) (ng : Nat) (fn : FuncId → Option AFunc) (isB : FuncId → Bool) (b : BaseK) (d : DBaseK) (L : List Sum) : Tab AV where
  fn := fn
  isBase g := isB g || inSums g L
  base g args A k := sumK g args A k (match isB g with
    | true => b g args A k
    | false => none) L
  dbase g args A k := match isB g with
    | true => d g args A k
    | false => none
  comp := compC P ng
structure BaseOk (P : Program) (ng : Nat) (isB : FuncId → Bool) (b : BaseK) (d : DBaseK) : Prop where
  base : ∀ f args A k r, isB f = true → b f args A k = some r → ∃ v A', k v A' = some r ∧ FnRun (ctx P ng) f args A v A'
  dbase : ∀ f args A k r, isB f = true → d f args A k = some r → ∃ A', k A' = some r ∧ DfnRun (ctx P ng) f args A A'
def SumOk (P : Program) (ng : Nat) (s : Sum) : Prop := ∀ args A, s.fits args A = true → FnRun (ctx P ng) s.g args A s.v s.B
theorem sumK_ok {g : FuncId} {args : List AV} {A : AW} {k : AV → AW → Option AV} {z : Option AV} {r : AV} : ∀ {L : List Sum}, (∀ s ∈ L, SumOk P ng s) → sumK g args A k z L = some r →
    (∃ v A', k v A' = some r ∧ FnRun (ctx P ng) g args A v A') ∨ z = some r
  | [], _, h => .inr h
  | s :: l, hL, h => by
    simp only [sumK] at h
    have hl : ∀ t ∈ l, SumOk P ng t := fun t ht => hL t (List.mem_cons_of_mem _ ht)
    split at h
    · rename_i hg
      have hg := Nat.eq_of_beq_eq_true hg
      split at h
      · rename_i hf
        subst hg
        exact .inl ⟨_, _, h, hL s (List.mem_cons_self ..) args A hf⟩
      · exact sumK_ok hl h
    · exact sumK_ok hl h
theorem mkTab_ok {fn : FuncId → Option AFunc} {isB : FuncId → Bool} {b : BaseK} {d : DBaseK} {L : List Sum} (hfn : ∀ f af, fn f = some af → compFn P ng f = some af) (hb : BaseOk P ng isB b d) (hL : ∀ s ∈ L, SumOk P ng s) :
    TabOk P ng (mkTab P ng fn isB b d L) where
  fn := hfn
  base f args A k r _ h := by
    simp only [mkTab] at h
    rcases sumK_ok hL h with h | h
    · exact h
    · split at h
      · rename_i hi; exact hb.base f args A k r hi h
      · cases h
  comp _ _ := rfl
  dbase f args A k r _ h := by
    simp only [mkTab] at h
    split at h
    · rename_i hi; exact hb.dbase f args A k r hi h
    · cases h
theorem sum_ok {fn : FuncId → Option AFunc} {isB : FuncId → Bool} {b : BaseK} {d : DBaseK} {L : List Sum} (hm : P.follows .mixedOrders = true) (hfn : ∀ f af, fn f = some af → compFn P ng f = some af) (hb : BaseOk P ng isB b d) (hL : ∀ s ∈ L, SumOk P ng s)
    {s : Sum} {f : Nat} {r : AV} (h : (F.ev (mkTab P ng fn isB b d L) f).call.efn s.g s.args s.A s.k = some r) : SumOk P ng s :=
  fun _ _ hf => Sum.ok hm (mkTab_ok hfn hb hL) h hf
end Go.Abs
end
section
namespace Go.Abs
variable {P : Program}
theorem run_rangeMap {t k e : TypeId} {m : Nat} {es : Array MapEntry} {clock : Nat} {w : World} (ht : P.underlying t = some (.map k e)) (hm : w.heap[m]? = some (.map es clock)) :
    (Instr.range t (.map (some m))).run P w = .ok (.pointer (some ⟨w.heap.size, 0, none⟩)) { w with heap := w.heap.push (.mapIter (some m) clock #[] clock) } := by
  simp only [Instr.range, Sem.run_bind, run_underlying ht, Result.andThen_ok]
  rw [run_getO hm (fun _ _ _ hh => by cases hh)]
  simp
theorem run_choose {P : Program} (q : Question) (w : World) : ∃ (n : Nat) (w' : World), (choose q).run P w = .ok n w' ∧ w'.heap = w.heap ∧ w'.os = w.os ∧ w'.output = w.output ∧ w'.tape = w.tape := by
  simp only [choose, Sem.run]
  split
  · exact ⟨_, _, rfl, rfl, rfl, rfl, rfl⟩
  · exact ⟨_, _, rfl, rfl, rfl, rfl, rfl⟩
theorem run_chooseMap {P : Program} (n : Nat) (hn : 0 < n) (w : World) : ∃ (i : Nat) (w' : World), i < n ∧ (choose (.mapNext n)).run P w = .ok i w' ∧ w'.heap = w.heap ∧ w'.os = w.os ∧ w'.output = w.output ∧ w'.tape = w.tape := by
  simp only [choose, Sem.run]
  split
  · exact ⟨_, _, hn, rfl, rfl, rfl, rfl, rfl⟩
  · refine ⟨_, _, ?_, rfl, rfl, rfl, rfl, rfl⟩
    simp only [Question.cut]; exact Nat.mod_lt _ hn
def leftOf (es : Array MapEntry) (seen : Array Nat) : Array MapEntry := es.filter fun e => !seen.contains e.born
theorem run_next_end {r m : Nat} {es : Array MapEntry} {clock since last : Nat} {seen : Array Nat} {w : World} {ty : TypeId} (hr : w.heap[r]? = some (.mapIter (some m) since seen last)) (hm : w.heap[m]? = some (.map es clock))
    (hb : ∀ e ∈ es, e.born < since) (hl : since ≤ last) (hleft : leftOf es seen = #[]) :
    (Instr.next (.pointer (some ⟨r, 0, none⟩)) false ty).run P w = .ok (.tuple #[.bool false]) w := by
  have h1 : (!seen.isEmpty && !es.isEmpty && es.all (·.born ≥ last)) = false := by
    cases he : es.isEmpty
    · have : es.all (·.born ≥ last) = false := by
        rw [Array.all_eq_false']
        have hne : es ≠ #[] := by simpa using he
        obtain ⟨x, hx⟩ := Array.exists_mem_of_ne_empty _ hne
        refine ⟨x, hx, ?_⟩
        have := hb x hx
        simp; omega
      simp [this]
    · simp
  have h2 : (es.filter fun e => !seen.contains e.born) = #[] := hleft
  simp only [Instr.next, Sem.run_bind]
  rw [run_getO hr (fun _ _ _ hh => by cases hh)]
  simp only [Result.andThen_ok, Sem.run_bind]
  rw [run_getO hm (fun _ _ _ hh => by cases hh)]
  simp only [Result.andThen_ok, h1, Bool.false_eq_true, if_false, h2, Sem.run_bind, Sem.run_pure]
  simp [choose, Sem.run, Question.forced]
theorem run_next_more {r m : Nat} {es : Array MapEntry} {clock since last : Nat} {seen : Array Nat} {w : World} {ty : TypeId} (hr : w.heap[r]? = some (.mapIter (some m) since seen last)) (hm : w.heap[m]? = some (.map es clock))
    (hb : ∀ e ∈ es, e.born < since) (hl : since ≤ last) (hleft : leftOf es seen ≠ #[]) :
    ∃ (e : MapEntry) (w₁ : World), e ∈ leftOf es seen ∧ w₁.heap = w.heap ∧ w₁.os = w.os ∧ w₁.output = w.output ∧ w₁.tape = w.tape ∧
      (Instr.next (.pointer (some ⟨r, 0, none⟩)) false ty).run P w = .ok (.tuple #[.bool true, e.key, e.val]) { w₁ with heap := w₁.heap.setIfInBounds r (.mapIter (some m) since (seen.push e.born) clock) } := by
  have hle : ∀ e ∈ leftOf es seen, e.born < since := fun e he => hb e (Array.mem_filter.1 he).1
  have h1 : (!seen.isEmpty && !es.isEmpty && es.all (·.born ≥ last)) = false := by
    have : es.all (·.born ≥ last) = false := by
      rw [Array.all_eq_false']
      obtain ⟨x, hx⟩ := Array.exists_mem_of_ne_empty _ hleft
      refine ⟨x, (Array.mem_filter.1 hx).1, ?_⟩
      have := hle x hx
      simp; omega
    simp [this]
  have hold : (leftOf es seen).filter (·.born < since) = leftOf es seen := by
    rw [Array.filter_eq_self]
    intro x hx; simpa using hle x hx
  have hnew : (leftOf es seen).filter (·.born ≥ since) = #[] := by
    rw [Array.filter_eq_empty_iff]
    intro x hx; have := hle x hx; simp; omega
  have hemp : (leftOf es seen).isEmpty = false := by
    cases h : (leftOf es seen).isEmpty
    · rfl
    · exact absurd (by simpa using h) hleft
  have hpos : 0 < (leftOf es seen).size := by
    cases hs : (leftOf es seen).size with
    | zero => exact absurd (Array.eq_empty_of_size_eq_zero hs) hleft
    | succ n => omega
  have hfold : (es.filter fun e => !seen.contains e.born) = leftOf es seen := rfl
  obtain ⟨i, w₁, hi, hrun, e1, e2, e3, e4⟩ := run_chooseMap (P := P) (leftOf es seen).size hpos w
  have hr' : w₁.heap[r]? = some (.mapIter (some m) since seen last) := by rw [e1]; exact hr
  refine ⟨(leftOf es seen)[i], w₁, Array.getElem_mem _, e1, e2, e3, e4, ?_⟩
  simp only [Instr.next, Sem.run_bind]
  rw [run_getO hr (fun _ _ _ hh => by cases hh)]
  simp only [Result.andThen_ok, Sem.run_bind]
  rw [run_getO hm (fun _ _ _ hh => by cases hh)]
  simp only [Result.andThen_ok, h1, Bool.false_eq_true, if_false, hfold, hold, hnew, hemp, Array.append_empty, Array.empty_append, Array.size_map, Sem.run_bind, Sem.run_pure, hrun]
  have hget : (Array.map some (leftOf es seen))[i]? = some (some (leftOf es seen)[i]) := by simp [hi]
  simp only [hget, Sem.run_bind]
  rw [run_setO hr' (fun _ _ _ hh => by cases hh)]
  simp
theorem run_entry {r m : Nat} {es : Array MapEntry} {clock since b : Nat} {seen : Array Nat} {w : World} {e : MapEntry} (hr : w.heap[r]? = some (.mapIter (some m) since (seen.push b) clock)) (hm : w.heap[m]? = some (.map es clock))
    (he : es.find? (fun e => e.born == b) = some e) : (Instr.entry (.pointer (some ⟨r, 0, none⟩))).run P w = .ok (.tuple #[e.key, e.val]) w := by
  simp only [Instr.entry, Sem.run_bind]
  rw [run_getO hr (fun _ _ _ hh => by cases hh)]
  simp only [Result.andThen_ok, Array.back?_push, Sem.run_bind]
  rw [run_getO hm (fun _ _ _ hh => by cases hh)]
  simp [he]
end Go.Abs
end
section
namespace Go.Abs
variable {α : Type}
def Out (e : TypeId) (A : AW) (sl : AV) (ss : List AV) : Prop :=
  (ss = [] ∧ sl = .nslice) ∨ (∃ b t, ss ≠ [] ∧ sl = .slice b 0 ss.length ss.length 1 ∧ A.heap.get b = some (.cells t ss.length e true) ∧ ∀ j, j < ss.length → t.get (ix j) = ss[j]?)
def Below (A : AW) : Prop := ∀ a o, A.heap.get a = some o → a.val < A.next.val
theorem WRel.below {X : Ctx} {σ : Sig} {A : AW} {w : World} (h : WRel X σ A w) : Below A := fun a o ha => by
  obtain ⟨c, _, hc, _⟩ := h.live a o ha
  refine Nat.lt_of_not_le fun hge => ?_
  rw [h.fresh a hge] at hc; cases hc
def notCells (o : AObj) : Prop := ∀ t n e c, o ≠ .cells t n e c
theorem Below.ne {A : AW} (h : Below A) {a : Ix} {o : AObj} (ha : A.heap.get a = some o) : a ≠ A.next := fun e => by have := h a o ha; subst e; omega
theorem Below.new {A : AW} (h : Below A) (o : AObj) : Below (A.new o) := by
  intro a q ha
  have hs := Ix.val_succ A.next
  simp only [AW.new, T.get_set] at ha ⊢
  by_cases e : a = A.next
  · subst e; omega
  · rw [if_neg e] at ha; have := h a q ha; omega
theorem append1 {e : TypeId} {A : AW} {sl : AV} {ss : List AV} {n : Nat} {l : List Nat} (hB : Below A) (ho : Out e A sl ss) (hlen : ss.length < 1000000) :
    ∃ sl' A', (∀ κ : AV → AW → Option α, appK e 1 16 sl 1 [.str n l] A κ = κ sl' A') ∧ Out e A' sl' (ss ++ [.str n l]) ∧ Below A' ∧ ∀ a o, A.heap.get a = some o → notCells o → A'.heap.get a = some o := by
  rcases ho with ⟨rfl, rfl⟩ | ⟨b, t, hne, rfl, hb, ht⟩
  · refine ⟨.slice A.next 0 1 1 1, A.new (.cells (T.set (some (.str n l)) (ix 0) .nil) 1 e true), fun κ => ?_, .inr ⟨A.next, T.set (some (.str n l)) (ix 0) .nil, by simp, rfl, by simp [AW.new, T.get_set_same], ?_⟩, hB.new _, ?_⟩
    · simp [appK, setRowK_eq, setRow, natK_eq, newK_eq, Nat.ble, Nat.blt]
    · intro j hj
      have : j = 0 := by simp at hj; omega
      subst this; simp [T.get_set_same]
    · intro a o ha _
      simp only [AW.new]
      rw [T.get_set_ne _ _ _ _ (hB.ne ha)]; exact ha
  · have hbn := hB.ne hb
    refine ⟨.slice A.next 0 (ss.length + 1) (ss.length + 1) 1, AW.new ⟨T.set none b A.heap, A.next⟩ (.cells (T.set (some (.str n l)) (ix ss.length) t) (ss.length + 1) e true), fun κ => ?_, .inr ⟨A.next, T.set (some (.str n l)) (ix ss.length) t, by simp, by simp, by simp [AW.new, T.get_set_same], ?_⟩, ?_, ?_⟩
    · have h1 : Nat.ble (ss.length + 1) ss.length = false := by
        cases h : Nat.ble (ss.length + 1) ss.length
        · rfl
        · exact absurd (Nat.le_of_ble_eq_true h) (by omega)
      have h2 : Nat.ble (2 * (ss.length + 1) * 16) 281474976710656 = true := Nat.ble_eq_true_of_le (by omega)
      have h3 : Nat.blt (ss.length + 1) 9223372036854775808 = true := by rw [blt_decide]; simp; omega
      have h4 : Nat.blt 0 1 = true := rfl
      simp only [appK, h1, h2, h3, h4, Bool.and_self, hb, Nat.mul_one, setRowK_eq, setRow, natK_eq, T.setK_eq, newK_eq]
      simp [allCells, AV.cell]
    · intro j hj
      simp only [List.length_append, List.length_singleton] at hj
      rw [T.get_set]
      by_cases e : j = ss.length
      · subst e; simp
      · have hne' : ix j ≠ ix ss.length := fun h => e (by have := congrArg Ix.val h; simpa using this)
        rw [if_neg hne', ht j (by omega), List.getElem?_append_left (by omega)]
    · refine Below.new (A := ⟨T.set none b A.heap, A.next⟩) (fun a q ha => ?_) _
      simp only [T.get_set] at ha
      by_cases e : a = b
      · rw [if_pos e] at ha; cases ha
      · rw [if_neg e] at ha; exact hB a q ha
    · intro a o ha hnc
      have hab : a ≠ b := fun e => by subst e; rw [hb] at ha; cases ha; exact hnc _ _ _ _ rfl
      simp only [AW.new]
      rw [T.get_set_ne _ _ _ _ (hB.ne ha), T.get_set_ne _ _ _ _ hab]; exact ha
def appItems (e : TypeId) : List Item :=
  [⟨some (ix 16), none, .r (.mv (.t (ix 1)))⟩, ⟨some (ix 17), none, .r (.mv (.t (ix 5)))⟩, ⟨some (ix 18), none, .b (.buildS e 1 [.str 0 []] [(0, 1, .t (ix 17))])⟩,
    ⟨some (ix 19), none, .e (.append e 1 16 (.t (ix 16)) (.t (ix 18)))⟩, ⟨some (ix 1), none, .r (.mv (.t (ix 19)))⟩]
theorem ixne {m n : Nat} (h : m ≠ n) : ix m ≠ ix n := fun e => h (by have := congrArg Ix.val e; simpa using this)
theorem appItems_run {rnd : Bool} {call : CallK α} {e : TypeId} {tm : T AV} {A : AW} {D : List ADef} {sl : AV} {ss : List AV} {n : Nat} {l : List Nat} (hB : Below A) (ho : Out e A sl ss) (hlen : ss.length < 1000000)
    (h1 : tm.get (ix 1) = some sl) (h5 : tm.get (ix 5) = some (.str n l)) : ∃ tm' A' sl', (∀ k : T AV → AW → List ADef → Option α, regK rnd call (appItems e) tm A D k = k tm' A' D) ∧ tm'.get (ix 1) = some sl' ∧ Out e A' sl' (ss ++ [.str n l]) ∧ Below A' ∧
      (∀ a o, A.heap.get a = some o → notCells o → A'.heap.get a = some o) ∧ ∀ j, j ≠ 1 → j < 16 → tm'.get (ix j) = tm.get (ix j) := by
  have hA1 : Below (A.new (.cells (T.set (some (.str n l)) (ix 0) .nil) 1 e true)) := hB.new _
  have ho1 : Out e (A.new (.cells (T.set (some (.str n l)) (ix 0) .nil) 1 e true)) sl ss := by
    rcases ho with h | ⟨b, t, hne, h2, hb, ht⟩
    · exact .inl h
    · refine .inr ⟨b, t, hne, h2, ?_, ht⟩
      simp only [AW.new]; rw [T.get_set_ne _ _ _ _ (hB.ne hb)]; exact hb
  obtain ⟨sl', A', happ, hout, hBel, hkeep⟩ := append1 (α := α) (n := n) (l := l) hA1 ho1 hlen
  refine ⟨T.set (some sl') (ix 1) (T.set (some sl') (ix 19) (T.set (some (.slice A.next 0 1 1 0)) (ix 18) (T.set (some (.str n l)) (ix 17) (T.set (some sl) (ix 16) tm)))), A', sl', fun k => ?_, T.get_set_same _ _ _, hout, hBel, fun a o ha hnc => hkeep a o (by simp only [AW.new]; rw [T.get_set_ne _ _ _ _ (hB.ne ha)]; exact ha) hnc, fun j hj1 hj => ?_⟩
  · have g5 : (T.set (some sl) (ix 16) tm).get (ix 5) = some (.str n l) := by rw [T.get_set_ne _ _ _ _ (ixne (by decide))]; exact h5
    have g17 : (T.set (some (AV.str n l)) (ix 17) (T.set (some sl) (ix 16) tm)).get (ix 17) = some (.str n l) := T.get_set_same _ _ _
    have g16 : (T.set (some (AV.slice A.next 0 1 1 0)) (ix 18) (T.set (some (AV.str n l)) (ix 17) (T.set (some sl) (ix 16) tm))).get (ix 16) = some sl := by
      rw [T.get_set_ne _ _ _ _ (ixne (by decide)), T.get_set_ne _ _ _ _ (ixne (by decide)), T.get_set_same]
    have g18 : (T.set (some (AV.slice A.next 0 1 1 0)) (ix 18) (T.set (some (AV.str n l)) (ix 17) (T.set (some sl) (ix 16) tm))).get (ix 18) = some (.slice A.next 0 1 1 0) := T.get_set_same _ _ _
    have g19 : (T.set (some sl') (ix 19) (T.set (some (AV.slice A.next 0 1 1 0)) (ix 18) (T.set (some (AV.str n l)) (ix 17) (T.set (some sl) (ix 16) tm)))).get (ix 19) = some sl' := T.get_set_same _ _ _
    have gA : (A.new (.cells (T.set (some (.str n l)) (ix 0) .nil) 1 e true)).heap.get A.next = some (.cells (T.set (some (.str n l)) (ix 0) .nil) 1 e true) := T.get_set_same _ _ _
    have g0 : (T.set (some (AV.str n l)) (ix 0) .nil).get (ix 0) = some (.str n l) := T.get_set_same _ _ _
    have hf : fillL [AV.str 0 []] [(0, 1, AV.str n l)] = some [.str n l] := by simp [fillL, AV.cells, lenN, Nat.ble]
    have hbv : (BV.sl 1).ok = true := rfl
    simp only [appItems, regK, stepK, wantK, doK, rdK, opdK, h1, putK, T.setK_eq, g5, bornK, partsK, g17, hf, hbv, setRowK_eq, setRow, natK_eq, lenN, newK_eq, BV.of, efK, g16, g18, srcK, gA, Nat.mul_one, gatherK, g0, orUndef, happ, g19]
  · rw [T.get_set_ne _ _ _ _ (ixne hj1), T.get_set_ne _ _ _ _ (ixne (by omega)), T.get_set_ne _ _ _ _ (ixne (by omega)), T.get_set_ne _ _ _ _ (ixne (by omega)), T.get_set_ne _ _ _ _ (ixne (by omega))]
end Go.Abs
end
section
namespace Go.Abs
variable {P : Program} {ng : Nat}
theorem noCall_ok {X : Ctx} {α : Type} : CallOk X (⟨fun _ _ _ _ => none, fun _ _ _ _ => none, fun _ _ _ _ => none, fun _ _ _ _ => none⟩ : CallK α) where
  fn f args A k r h := by cases h
  efn f args A k r h := by cases h
  dfn f args A k r h := by cases h
  yield b args A k r h := by cases h
theorem wpOps_val {ro : Option Nat} {ops : Array Oper} {i : Nat} {o : Oper} {rest : List Nat} {a : Act} {w w' : World} {v : Value} {Q : Exit → Act → World → Prop} (hi : ops[i]? = some o) (hg : o.guard = none)
    (hrun : (execOp a.eval o).run P w = .ok (.value v) w') (h : wpOpsIn (wideR ro) 0 P ops Q rest (a.put o.dst v) w') : wpOpsIn (wideR ro) 0 P ops Q (i :: rest) a w := by
  rw [wpOpsIn_cons]
  simp only [wpOpIn, hi, Region.wanted, hg, if_true]
  exact wpIn_of_run (X := ⟨P, 0⟩) hrun (fun d => by simp) h
theorem AR.putT {σ : Sig} {tm : T AV} {D : List ADef} {N : Nat} {a : Act} (h : AR σ tm D N a) {d : Nat} (hd : d < N) {v : AV} {v' : Value} (hv : VRel σ v v') : AR σ (T.set (some v) (ix d) tm) D N (a.put (some d) v') := by
  obtain ⟨tm', hk, hp⟩ := putK_ok (α := T AV) (N := N) (d := some d) (d' := some (ix d)) (by simp [compDst, hd]) (v := v) (tm := tm) (k := some) (r := T.set (some v) (ix d) tm) (by simp [putK, T.setK_eq])
  cases hk
  exact hp h hv
theorem AR.slot {σ : Sig} {tm : T AV} {D : List ADef} {N : Nat} {a : Act} (h : AR σ tm D N a) {d : Nat} {v : AV} (hv : tm.get (ix d) = some v) : VRel σ v (a.eval (.tmp d)) := by
  obtain ⟨v', h1, h2⟩ := h.tr _ _ hv
  simp only [ix_val] at h1
  show VRel σ v (a.tmps.getD d undef)
  simpa [Array.getD_eq_getD_getElem?, h1] using h2
structure St (X : Ctx) (N : Nat) (e : TypeId) (σ₀ : Sig) (A₀ : AW) (w₀ : World) (M I : AV) (Os : List (Ix × AObj)) (ss : List AV) (σ : Sig) (A : AW) (w : World) (a : Act) (tm : T AV) : Prop where
  le : Sig.le σ₀ σ
  rel : WRel X σ A w
  kp : Keeps σ₀ A₀ w₀ σ A w
  ar : AR σ tm [] N a
  out : ∃ sl, tm.get (ix 1) = some sl ∧ Out e A sl ss
  x6 : tm.get (ix 6) = some M
  x7 : tm.get (ix 7) = some I
  obs : ∀ p ∈ Os, A.heap.get p.1 = some p.2
  obn : ∀ p ∈ Os, notCells p.2
variable {X : Ctx} {N : Nat} {e : TypeId} {σ₀ : Sig} {A₀ : AW} {w₀ : World} {M I : AV} {Os : List (Ix × AObj)} {ss : List AV} {σ : Sig} {A : AW} {w : World} {a : Act} {tm : T AV}
theorem St.put (S : St X N e σ₀ A₀ w₀ M I Os ss σ A w a tm) {d : Nat} (h1 : d ≠ 1) (h6 : d ≠ 6) (h7 : d ≠ 7) (hd : d < N) {v : AV} {v' : Value} (hv : VRel σ v v') : St X N e σ₀ A₀ w₀ M I Os ss σ A w (a.put (some d) v') (T.set (some v) (ix d) tm) := by
  obtain ⟨sl, hs, ho⟩ := S.out
  exact ⟨S.le, S.rel, S.kp, S.ar.putT hd hv, ⟨sl, by rw [T.get_set_ne _ _ _ _ (ixne (Ne.symm h1))]; exact hs, ho⟩, by rw [T.get_set_ne _ _ _ _ (ixne (Ne.symm h6))]; exact S.x6, by rw [T.get_set_ne _ _ _ _ (ixne (Ne.symm h7))]; exact S.x7, S.obs, S.obn⟩
def Hidden (σ : Sig) (A : AW) (w₀ w : World) (r : Nat) (O : Obj) : Prop := w.heap[r]? = some O ∧ ¬ Owns σ A r ∧ w₀.heap.size ≤ r
theorem Hidden.ext {X : Ctx} {σ σ' : Sig} {A A' : AW} {w₀ w w' : World} {r : Nat} {O : Obj} (h : Hidden σ A w₀ w r O) (hE : Go.Abs.Ext X σ A w σ' A' w') : Hidden σ' A' w₀ w' r O := by
  have hlt : r < w.heap.size := (Array.getElem?_eq_some_iff.1 h.1).1
  refine ⟨by rw [hE.keeps.keep r hlt h.2.1]; exact h.1, fun ho => ?_, h.2.2⟩
  rcases hE.keeps.own r ho with ho | hge
  · exact h.2.1 ho
  · omega
theorem St.hid (S : St X N e σ₀ A₀ w₀ M I Os ss σ A w a tm) {r : Nat} {O O' : Obj} (h : Hidden σ A w₀ w r O) (hn : ∀ cs e fr, O' ≠ .cells cs e fr) {w' : World} (hh : w'.heap = w.heap.setIfInBounds r O') (h1 : w'.os = w.os) (h2 : w'.output = w.output) (h3 : w'.tape = w.tape) :
    St X N e σ₀ A₀ w₀ M I Os ss σ A w' a tm ∧ Hidden σ A w₀ w' r O' := by
  have hget : ∀ d, w'.heap[d]? = if d = r then some O' else w.heap[d]? := fun d => by rw [hh]; exact heap_set h.1 d
  have hlt : r < w.heap.size := (Array.getElem?_eq_some_iff.1 h.1).1
  have hsz : w'.heap.size = w.heap.size := by rw [hh]; simp
  refine ⟨⟨S.le, ⟨fun b q hb => ?_, fun b c cs e fr hc hO => ?_, S.rel.inj, S.rel.fresh, fun b c hc => by rw [hsz]; exact S.rel.range b c hc, S.rel.glob⟩, ⟨by rw [hsz]; exact S.kp.size, fun c hc ho => ?_, S.kp.own, S.kp.new, S.kp.low, S.kp.next, by rw [h1]; exact S.kp.os, by rw [h2]; exact S.kp.output, by rw [h3]; exact S.kp.tape⟩, S.ar, S.out, S.x6, S.x7, S.obs, S.obn⟩,
    by rw [hget]; simp, h.2.1, h.2.2⟩
  · obtain ⟨c, O₁, hc, hO, hr⟩ := S.rel.live b q hb
    have hne : c ≠ r := fun e => h.2.1 ⟨b, q, hb, e ▸ hc⟩
    exact ⟨c, O₁, hc, by rw [hget, if_neg hne]; exact hO, hr⟩
  · rw [hget] at hO
    by_cases hcr : c = r
    · rw [if_pos hcr] at hO; cases hO; exact absurd rfl (hn _ _ _)
    · rw [if_neg hcr] at hO; exact S.rel.size b c cs e fr hc hO
  · have hne : c ≠ r := by have := h.2.2; omega
    rw [hget, if_neg hne]; exact S.kp.keep c hc ho
abbrev Ent := AV × AV × Nat
def leftA (es : List Ent) (seen : Array Nat) : List Ent := es.filter fun x => !seen.contains x.2.2
theorem EsRel.filter {σ : Sig} (p : Nat → Bool) : ∀ {l : List Ent} {es : List MapEntry}, EsRel σ l es → EsRel σ (l.filter fun x => p x.2.2) (es.filter fun e => p e.born)
  | _, _, .nil => .nil
  | _, _, .cons (k := k) (v := v) (b := b) (e := e) hk hv hb t => by
    have ht := t.filter p
    simp only [List.filter_cons]
    subst hb
    split
    · exact .cons hk hv rfl ht
    · exact ht
theorem EsRel.mem {σ : Sig} : ∀ {l : List Ent} {es : List MapEntry}, EsRel σ l es → ∀ e ∈ es, ∃ x ∈ l, VRel σ x.1 e.key ∧ VRel σ x.2.1 e.val ∧ e.born = x.2.2
  | _, _, .nil, e, he => by cases he
  | _, _, .cons hk hv hb t, e, he => by
    rcases List.mem_cons.1 he with rfl | he
    · exact ⟨_, List.mem_cons_self .., hk, hv, hb⟩
    · obtain ⟨x, hx, h⟩ := t.mem e he
      exact ⟨x, List.mem_cons_of_mem _ hx, h⟩
theorem EsRel.find {σ : Sig} (b : Nat) : ∀ {l : List Ent} {es : List MapEntry}, EsRel σ l es → ∀ x ∈ l, x.2.2 = b → (l.map (·.2.2)).Nodup → ∃ e, es.find? (fun e => e.born == b) = some e ∧ VRel σ x.1 e.key ∧ VRel σ x.2.1 e.val
  | _, _, .nil, x, hx, _, _ => by cases hx
  | _, _, .cons (k := k) (v := v) (b := b') (e := e) (l := l) hk hv hb t, x, hx, hxb, hn => by
    simp only [List.map_cons, List.nodup_cons] at hn
    rcases List.mem_cons.1 hx with rfl | hx
    · simp only at hxb
      refine ⟨e, ?_, hk, hv⟩
      rw [List.find?_cons_of_pos]
      simp [hb, hxb]
    · have hne : e.born ≠ b := fun h => hn.1 (List.mem_map.2 ⟨x, hx, by rw [hxb, ← h, hb]⟩)
      obtain ⟨e', h1, h2⟩ := t.find b x hx hxb hn.2
      refine ⟨e', ?_, h2⟩
      rw [List.find?_cons_of_neg (by simpa using hne)]; exact h1
theorem left_pick {seen : Array Nat} {b : Nat} : ∀ {l : List Ent} {x : Ent}, (l.map (·.2.2)).Nodup → x ∈ l → x.2.2 = b → seen.contains b = false → (leftA l seen).Perm (x :: leftA l (seen.push b))
  | [], x, _, hx, _, _ => by cases hx
  | y :: l, x, hn, hx, hb, hs => by
    simp only [List.map_cons, List.nodup_cons] at hn
    rcases List.mem_cons.1 hx with rfl | hx
    · have h1 : leftA l (seen.push b) = leftA l seen := by
        unfold leftA
        apply List.filter_congr
        intro z hz
        have hne : z.2.2 ≠ b := fun h => hn.1 (List.mem_map.2 ⟨z, hz, by rw [h, hb]⟩)
        have hne' : ¬ b = z.2.2 := fun h => hne h.symm
        simp [hne]
      have h2 : leftA (x :: l) seen = x :: leftA l seen := by
        unfold leftA; rw [List.filter_cons_of_pos]; simp only [hb, hs]; rfl
      have h3 : leftA (x :: l) (seen.push b) = leftA l (seen.push b) := by
        unfold leftA; rw [List.filter_cons_of_neg]; simp [hb]
      rw [h2, h3, h1]
    · have hne : y.2.2 ≠ b := fun h => hn.1 (List.mem_map.2 ⟨x, hx, by rw [h, hb]⟩)
      have ih := left_pick hn.2 hx hb hs
      by_cases hc : seen.contains y.2.2 = true
      · have h2 : leftA (y :: l) seen = leftA l seen := by unfold leftA; rw [List.filter_cons_of_neg]; simp only [hc]; decide
        have h3 : leftA (y :: l) (seen.push b) = leftA l (seen.push b) := by
          unfold leftA; rw [List.filter_cons_of_neg]
          have : y.2.2 ∈ seen := by simpa using hc
          simp [this]
        rw [h2, h3]; exact ih
      · have h2 : leftA (y :: l) seen = y :: leftA l seen := by unfold leftA; rw [List.filter_cons_of_pos]; simpa using hc
        have h3 : leftA (y :: l) (seen.push b) = y :: leftA l (seen.push b) := by
          unfold leftA; rw [List.filter_cons_of_pos]
          have : y.2.2 ∉ seen := by simpa using hc
          simp [this, hne]
        rw [h2, h3]
        exact (ih.cons y).trans (List.Perm.swap _ _ _)
end Go.Abs
end
section
namespace Go.Abs
variable {P : Program} {ng : Nat}
structure InnerCode (P : Program) (ng N : Nat) (e : TypeId) (ops6 ops7 ops8 : Array Oper) : Prop where
  n6 : ops6.size = 2
  n7 : ops7.size = 3
  o60 : ∃ o, ops6[0]? = some o ∧ o.op = .next (.tmp 11) false ∧ o.dst = some 12 ∧ o.guard = none
  o61 : ∃ o, ops6[1]? = some o ∧ o.op = .extract (.tmp 12) 0 ∧ o.dst = some 13 ∧ o.guard = none
  o70 : ∃ o, ops7[0]? = some o ∧ o.op = .entry (.tmp 11) ∧ o.dst = some 14 ∧ o.guard = none
  o71 : ∃ o, ops7[1]? = some o ∧ o.op = .extract (.tmp 14) 1 ∧ o.dst = some 15 ∧ o.guard = none
  o72 : ∃ o, ops7[2]? = some o ∧ o.op = .assign (.tmp 15) ∧ o.dst = some 5 ∧ o.guard = none
  i8 : compItems P ng N ops8 ops8.toList = some (appItems e)
  hN : 20 ≤ N
def innerBody (id6 id7 id8 : Nat) (ops6 ops7 ops8 : Array Oper) (b2 b3 : Nat) : Code :=
  .seq (.region id6 ops6 false) (.seq (.cond (.tmp 13) .skip (.exit b2)) (.block b3 (.seq (.region id7 ops7 false) (.region id8 ops8 false))))
variable {N : Nat} {e : TypeId} {σ₀ : Sig} {A₀ : AW} {w₀ : World} {M I : AV} {Os : List (Ix × AObj)}
theorem nil_of_rel {σ : Sig} {l : List Ent} {es : List MapEntry} (h : EsRel σ l es) (hl : l = []) : es = [] := by subst hl; cases h; rfl
theorem inner_loop {ops6 ops7 ops8 : Array Oper} (C : InnerCode P ng N e ops6 ops7 ops8) {id6 id7 id8 b2 b3 : Nat} {bm br : Ix} {esA : List Ent} {clock : Nat} (hmem : (bm, AObj.map esA clock) ∈ Os) (hborn : ∀ x ∈ esA, x.2.2 < clock) (hnd : (esA.map (·.2.2)).Nodup)
    (hstr : ∀ x ∈ esA, ∃ n l, x.2.1 = .str n l) {Q : Exit → Act → World → Prop} {ss0 : List AV} (hss0 : ss0.length + esA.length < 1000000) :
    ∀ (n : Nat) (σ : Sig) (A : AW) (w : World) (a : Act) (tm : T AV) (ss dl : List AV) (r m : Nat) (seen : Array Nat) (last : Nat), (leftA esA seen).length = n → St (ctx P ng) N e σ₀ A₀ w₀ M I Os ss σ A w a tm → tm.get (ix 11) = some (.ptr br 0) → σ br = some r → σ bm = some m → clock ≤ last →
      Hidden σ A w₀ w r (.mapIter (some m) clock seen last) → ss = ss0 ++ dl → (dl ++ (leftA esA seen).map (·.2.1)).Perm (esA.map (·.2.1)) →
      (∀ σ' A' w' a' tm' ss', St (ctx P ng) N e σ₀ A₀ w₀ M I Os (ss0 ++ ss') σ' A' w' a' tm' → ss'.Perm (esA.map (·.2.1)) → Q (.exit b2) a' w') →
      LoopW (wideR none) 0 P (innerBody id6 id7 id8 ops6 ops7 ops8 b2 b3) Q a w := by
  intro n
  induction n with
  | zero =>
    intro σ A w a tm ss dl r m seen last hlen S h11 hbr hbm hlast hid hss hperm hQ
    have hleft : leftA esA seen = [] := List.eq_nil_of_length_eq_zero hlen
    obtain ⟨c, O, hc, hO, hr⟩ := S.rel.live _ _ (S.obs _ hmem)
    rw [hbm] at hc; cases hc
    cases hr with
    | map hes =>
      rename_i es
      have hb : ∀ x ∈ es, x.born < clock := fun x hx => by
        obtain ⟨y, hy, _, _, hy3⟩ := hes.mem x (by simpa using hx)
        rw [hy3]; exact hborn y hy
      have hl : leftOf es seen = #[] := by
        have := nil_of_rel (hes.filter fun b => !seen.contains b) hleft
        apply Array.toList_inj.1
        simpa [leftOf] using this
      have hrun := run_next_end (P := P) (ty := 0) hid.1 hO hb hlast hl
      obtain ⟨o0, h00, h01, h02, h03⟩ := C.o60
      obtain ⟨o1, h10, h11', h12, h13⟩ := C.o61
      have hptr := (S.ar.slot h11)
      have hev : a.eval (.tmp 11) = .pointer (some ⟨r, 0, none⟩) := by
        generalize hu : a.eval (.tmp 11) = u at hptr
        cases hptr with
        | ptr h => rw [hbr] at h; cases h; rfl
      have hN := C.hN
      refine LoopW.step (wpIn_seq (wpIn_region ?_))
      rw [C.n6]
      show wpOpsIn (wideR none) 0 P ops6 _ [0, 1] a w
      have hrun0 : (execOp a.eval o0).run P w = .ok (.value (.tuple #[.bool false])) w := by
        have := run_next_end (P := P) (ty := o0.type) hid.1 hO hb hlast hl
        simp only [execOp, h01, hev, Sem.run_bind, this, Result.andThen_ok, Sem.run_pure]
      refine wpOps_val h00 h03 hrun0 ?_
      rw [h02]
      have S1 := S.put (d := 12) (by decide) (by decide) (by decide) (by omega) (v := .tuple [.bool false]) (v' := .tuple #[.bool false]) (.tuple (.cons (.bool _) .nil))
      have hev12 : (a.put (some 12) (Value.tuple #[.bool false])).eval (.tmp 12) = .tuple #[.bool false] := by
        have h := S1.ar.slot (d := 12) (T.get_set_same _ _ _)
        show (a.tmps.setIfInBounds 12 _).getD 12 undef = _
        have hsz := S.ar.sz
        have : 12 < a.tmps.size := by omega
        simp [Array.getD_eq_getD_getElem?, Array.getElem?_setIfInBounds, this]
      have hrun1 : (execOp (a.put (some 12) (Value.tuple #[.bool false])).eval o1).run P w = .ok (.value (.bool false)) w := by
        simp only [execOp, h11', hev12]
        rfl
      refine wpOps_val h10 h13 hrun1 ?_
      rw [h12]
      have S2 := S1.put (d := 13) (by decide) (by decide) (by decide) (by omega) (v := .bool false) (v' := .bool false) (.bool _)
      show Exit.then _ _ .normal _ w
      show (Code.seq _ _).wpIn _ _ _ _ _ _
      refine wpIn_seq (wpIn_cond_false (S2.ar.slot (T.get_set_same _ _ _)).bool_inv (wpIn_exit ?_))
      exact hQ σ A w _ _ dl (by rw [← hss]; exact S2) (by simpa [hleft] using hperm)
  | succ n ih =>
    intro σ A w a tm ss dl r m seen last hlen S h11 hbr hbm hlast hid hss hperm hQ
    obtain ⟨c, O, hc, hO, hr⟩ := S.rel.live _ _ (S.obs _ hmem)
    rw [hbm] at hc; cases hc
    cases hr with
    | map hes =>
      rename_i es
      have hb : ∀ x ∈ es, x.born < clock := fun x hx => by
        obtain ⟨y, hy, _, _, hy3⟩ := hes.mem x (by simpa using hx)
        rw [hy3]; exact hborn y hy
      have hfl := hes.filter fun b => !seen.contains b
      have hl : leftOf es seen ≠ #[] := by
        intro hh
        have h1 := hfl.length
        have h2 : (es.toList.filter fun e => !seen.contains e.born) = [] := by
          have := congrArg Array.toList hh
          simpa [leftOf] using this
        rw [h2] at h1
        have h3 : (leftA esA seen).length = 0 := h1
        omega
      obtain ⟨o0, h00, h01, h02, h03⟩ := C.o60
      obtain ⟨o1, h10, h11', h12, h13⟩ := C.o61
      have hptr := (S.ar.slot h11)
      have hev : a.eval (.tmp 11) = .pointer (some ⟨r, 0, none⟩) := by
        generalize hu : a.eval (.tmp 11) = u at hptr
        cases hptr with
        | ptr h => rw [hbr] at h; cases h; rfl
      have hN := C.hN
      have hsz := S.ar.sz
      obtain ⟨en, w₁, hen, e1, e2, e3, e4, hrun⟩ := run_next_more (P := P) (ty := o0.type) hid.1 hO hb hlast hl
      obtain ⟨henm, hens⟩ := Array.mem_filter.1 hen
      obtain ⟨x, hx, hx1, hx2, hx3⟩ := hes.mem en (by simpa using henm)
      have hseen : seen.contains x.2.2 = false := by rw [← hx3]; simpa using hens
      obtain ⟨ns, ls, hv⟩ := hstr x hx
      rw [hv] at hx2
      obtain ⟨S', hid'⟩ := S.hid hid (O' := .mapIter (some m) clock (seen.push en.born) clock) (fun _ _ _ hh => by cases hh) (w' := { w₁ with heap := w₁.heap.setIfInBounds r (.mapIter (some m) clock (seen.push en.born) clock) }) (by rw [e1]) e2 e3 e4
      generalize hw' : ({ w₁ with heap := w₁.heap.setIfInBounds r (.mapIter (some m) clock (seen.push en.born) clock) } : World) = w' at hrun S' hid'
      refine LoopW.step (wpIn_seq (wpIn_region ?_))
      rw [C.n6]
      show wpOpsIn (wideR none) 0 P ops6 _ [0, 1] a w
      have hrun0 : (execOp a.eval o0).run P w = .ok (.value (.tuple #[.bool true, en.key, en.val])) w' := by
        simp only [execOp, h01, hev, Sem.run_bind, hrun, Result.andThen_ok, Sem.run_pure]
      refine wpOps_val h00 h03 hrun0 ?_
      rw [h02]
      have S1 := S'.put (d := 12) (by decide) (by decide) (by decide) (by omega) (v := .tuple [.bool true, x.1, .str ns ls]) (v' := .tuple #[.bool true, en.key, en.val]) (.tuple (.cons (.bool _) (.cons hx1 (.cons hx2 .nil))))
      have hev12 : (a.put (some 12) (Value.tuple #[.bool true, en.key, en.val])).eval (.tmp 12) = .tuple #[.bool true, en.key, en.val] := by
        show (a.tmps.setIfInBounds 12 _).getD 12 undef = _
        have : 12 < a.tmps.size := by omega
        simp [Array.getD_eq_getD_getElem?, Array.getElem?_setIfInBounds, this]
      have hrun1 : (execOp (a.put (some 12) (Value.tuple #[.bool true, en.key, en.val])).eval o1).run P w' = .ok (.value (.bool true)) w' := by
        simp only [execOp, h11', hev12]
        rfl
      refine wpOps_val h10 h13 hrun1 ?_
      rw [h12]
      have S2 := S1.put (d := 13) (by decide) (by decide) (by decide) (by omega) (v := .bool true) (v' := .bool true) (.bool _)
      show (Code.seq _ _).wpIn _ _ _ _ _ _
      refine wpIn_seq (wpIn_cond_true (S2.ar.slot (T.get_set_same _ _ _)).bool_inv (wpIn_skip ?_))
      show (Code.block _ _).wpIn _ _ _ _ _ _
      refine wpIn_block (wpIn_seq (wpIn_region ?_))
      rw [C.n7]
      show wpOpsIn (wideR none) 0 P ops7 _ [0, 1, 2] _ w'
      obtain ⟨p0, g00, g01, g02, g03⟩ := C.o70
      obtain ⟨p1, g10, g11, g12, g13⟩ := C.o71
      obtain ⟨p2, g20, g21, g22, g23⟩ := C.o72
      have h11a : (T.set (some (AV.bool true)) (ix 13) (T.set (some (AV.tuple [.bool true, x.1, .str ns ls])) (ix 12) tm)).get (ix 11) = some (.ptr br 0) := by
        rw [T.get_set_ne _ _ _ _ (ixne (by decide)), T.get_set_ne _ _ _ _ (ixne (by decide))]; exact h11
      have hev11 : ((a.put (some 12) (Value.tuple #[.bool true, en.key, en.val])).put (some 13) (.bool true)).eval (.tmp 11) = .pointer (some ⟨r, 0, none⟩) := by
        have h := S2.ar.slot h11a
        generalize hu : Act.eval _ (.tmp 11) = u at h ⊢
        cases h with
        | ptr h => rw [hbr] at h; cases h; rfl
      obtain ⟨c', O', hc', hO', hr'⟩ := S'.rel.live _ _ (S'.obs _ hmem)
      rw [hbm] at hc'; cases hc'
      cases hr' with
      | map hes' =>
        rename_i es'
        obtain ⟨en', hf, hk1, hk2⟩ := hes'.find en.born x hx hx3.symm hnd
        have hrunE := run_entry (P := P) hid'.1 hO' (by simpa using hf)
        rw [hv] at hk2
        have hrun2 : (execOp ((a.put (some 12) (Value.tuple #[.bool true, en.key, en.val])).put (some 13) (.bool true)).eval p0).run P w' = .ok (.value (.tuple #[en'.key, en'.val])) w' := by
          simp only [execOp, g01, hev11, Sem.run_bind, hrunE, Result.andThen_ok, Sem.run_pure]
        refine wpOps_val g00 g03 hrun2 ?_
        rw [g02]
        have S3 := S2.put (d := 14) (by decide) (by decide) (by decide) (by omega) (v := .tuple [x.1, .str ns ls]) (v' := .tuple #[en'.key, en'.val]) (.tuple (.cons hk1 (.cons hk2 .nil)))
        generalize ha3 : (((a.put (some 12) (Value.tuple #[.bool true, en.key, en.val])).put (some 13) (.bool true)).put (some 14) (.tuple #[en'.key, en'.val])) = a3 at S3 ⊢
        have hev14 : a3.eval (.tmp 14) = .tuple #[en'.key, en'.val] := by
          rw [← ha3]
          show (((a.tmps.setIfInBounds 12 _).setIfInBounds 13 _).setIfInBounds 14 _).getD 14 undef = _
          have : 14 < a.tmps.size := by omega
          simp [Array.getD_eq_getD_getElem?, Array.getElem?_setIfInBounds, this]
        have hrun3 : (execOp a3.eval p1).run P w' = .ok (.value en'.val) w' := by
          simp only [execOp, g11, hev14]
          rfl
        refine wpOps_val g10 g13 hrun3 ?_
        rw [g12]
        have S4 := S3.put (d := 15) (by decide) (by decide) (by decide) (by omega) hk2
        have hev15 : (a3.put (some 15) en'.val).eval (.tmp 15) = en'.val := by
          show (a3.tmps.setIfInBounds 15 _).getD 15 undef = _
          have h3 := S3.ar.sz
          have : 15 < a3.tmps.size := by omega
          simp [Array.getD_eq_getD_getElem?, Array.getElem?_setIfInBounds, this]
        have hrun4 : (execOp (a3.put (some 15) en'.val).eval p2).run P w' = .ok (.value en'.val) w' := by
          simp only [execOp, g21, hev15]
          rfl
        refine wpOps_val g20 g23 hrun4 ?_
        rw [g22]
        have S5 := S4.put (d := 5) (by decide) (by decide) (by decide) (by omega) hk2
        generalize ha5 : ((a3.put (some 15) en'.val).put (some 5) en'.val) = a5 at S5 ⊢
        generalize ht5 : (T.set (some (AV.str ns ls)) (ix 5) (T.set (some (AV.str ns ls)) (ix 15) (T.set (some (AV.tuple [x.1, .str ns ls])) (ix 14) (T.set (some (AV.bool true)) (ix 13) (T.set (some (AV.tuple [.bool true, x.1, .str ns ls])) (ix 12) tm))))) = tm5 at S5
        have h115 : tm5.get (ix 11) = some (.ptr br 0) := by
          rw [← ht5, T.get_set_ne _ _ _ _ (ixne (by decide)), T.get_set_ne _ _ _ _ (ixne (by decide)), T.get_set_ne _ _ _ _ (ixne (by decide))]; exact h11a
        have h55 : tm5.get (ix 5) = some (.str ns ls) := by rw [← ht5, T.get_set_same]
        obtain ⟨sl, hsl, hout⟩ := S5.out
        have hsslen : ss.length < 1000000 := by
          have h1 := hperm.length_eq
          simp at h1
          rw [hss, List.length_append]; omega
        obtain ⟨tm6, A6, sl6, hrunK, hx1', hout', hBel, hkeep, hother⟩ := appItems_run (α := T AV × AW × List ADef) (rnd := false) (call := ⟨fun _ _ _ _ => none, fun _ _ _ _ => none, fun _ _ _ _ => none, fun _ _ _ _ => none⟩) (D := []) S5.rel.below hout hsslen hsl h55
        obtain ⟨tm7, A7, D7, hk7, hreg⟩ := region_ok (X := ctx P ng) (id := id8) (rnd := false) noCall_ok C.i8 (hrunK fun tm A D => some (tm, A, D))
        simp only [Option.some.injEq, Prod.mk.injEq] at hk7
        obtain ⟨rfl, rfl, rfl⟩ := hk7
        show (Code.region _ _ _).wpIn _ _ _ _ _ _
        refine hreg none rfl σ w' a5 _ S5.rel S5.ar fun σ6 w6 a6 hE6 hA6 => ?_
        show LoopW _ _ _ _ _ a6 w6
        have S6 : St (ctx P ng) N e σ₀ A₀ w₀ M I Os (ss ++ [.str ns ls]) σ6 A7 w6 a6 tm7 :=
          ⟨Sig.le_trans S5.le hE6.le, hE6.rel, S5.kp.trans hE6.le hE6.keeps, hA6, ⟨sl6, hx1', hout'⟩, by rw [hother 6 (by decide) (by decide)]; exact S5.x6, by rw [hother 7 (by decide) (by decide)]; exact S5.x7,
            fun p hp => hkeep _ _ (S5.obs p hp) (S5.obn p hp), S5.obn⟩
        refine ih σ6 A7 w6 a6 tm7 (ss ++ [.str ns ls]) (dl ++ [.str ns ls]) r m (seen.push en.born) clock ?_ S6 (by rw [hother 11 (by decide) (by decide)]; exact h115) (hE6.le.at_ _ _ hbr) (hE6.le.at_ _ _ hbm) (Nat.le_refl _) (hid'.ext hE6) (by rw [hss]; simp) ?_ hQ
        · have hp := (left_pick (b := en.born) hnd hx hx3.symm (by rw [hx3]; exact hseen)).length_eq
          simp at hp; omega
        · have hp := (left_pick (b := en.born) hnd hx hx3.symm (by rw [hx3]; exact hseen)).map (·.2.1)
          simp only [List.map_cons, hv] at hp
          refine List.Perm.trans ?_ hperm
          rw [List.append_assoc]
          exact (List.Perm.refl dl).append hp.symm
end Go.Abs
end
section
namespace Go.Abs
variable {P : Program} {ng : Nat}
variable {N : Nat} {e : TypeId} {σ₀ : Sig} {A₀ : AW} {w₀ : World} {M I : AV} {Os : List (Ix × AObj)}
theorem leftA_nil (es : List Ent) : leftA es #[] = es := by unfold leftA; exact List.filter_eq_self.2 fun x _ => by simp
abbrev noC (α : Type) : CallK α := ⟨fun _ _ _ _ => none, fun _ _ _ _ => none, fun _ _ _ _ => none, fun _ _ _ _ => none⟩
theorem St.reg {ss : List AV} {σ : Sig} {A : AW} {w : World} {a : Act} {tm tm' : T AV} (S : St (ctx P ng) N e σ₀ A₀ w₀ M I Os ss σ A w a tm) {id : Nat} {ops : Array Oper} {items : List Item} (hc : compItems P ng N ops ops.toList = some items)
    (hr : regK (α := T AV × AW × List ADef) false (noC _) items tm A [] (fun tm A D => some (tm, A, D)) = some (tm', A, [])) (h1 : tm'.get (ix 1) = tm.get (ix 1)) (h6 : tm'.get (ix 6) = tm.get (ix 6)) {I' : AV} (h7 : tm'.get (ix 7) = some I')
    {Q : Exit → Act → World → Prop} (hQ : ∀ σ' w' a', Go.Abs.Ext (ctx P ng) σ A w σ' A w' → St (ctx P ng) N e σ₀ A₀ w₀ M I' Os ss σ' A w' a' tm' → Q .normal a' w') : (Code.region id ops false).wpIn (wideR none) 0 P Q a w := by
  obtain ⟨tm7, A7, D7, hk7, hreg⟩ := region_ok (X := ctx P ng) (id := id) (rnd := false) noCall_ok hc hr
  simp only [Option.some.injEq, Prod.mk.injEq] at hk7
  obtain ⟨rfl, rfl, rfl⟩ := hk7
  refine hreg none rfl σ w a _ S.rel S.ar fun σ6 w6 a6 hE6 hA6 => hQ σ6 w6 a6 hE6 ?_
  obtain ⟨sl, hsl, hout⟩ := S.out
  exact ⟨Sig.le_trans S.le hE6.le, hE6.rel, S.kp.trans hE6.le hE6.keeps, hA6, ⟨sl, by rw [h1]; exact hsl, hout⟩, by rw [h6]; exact S.x6, h7, S.obs, S.obn⟩
structure OuterCode (P : Program) (ng N : Nat) (e tM tk te : TypeId) (ops3 ops4 ops5 ops9 : Array Oper) (nm : Nat) : Prop where
  i3 : compItems P ng N ops3 ops3.toList = some [⟨some (ix 8), none, .r (.bin .lss (.t (ix 7)) (.c (.int .i64 (.ofNat nm))))⟩]
  i4 : compItems P ng N ops4 ops4.toList = some [⟨some (ix 9), none, .r (.idxA nm 1 false (.t (ix 6)) (.t (ix 7)))⟩, ⟨some (ix 3), none, .r (.mv (.t (ix 9)))⟩]
  n5 : ops5.size = 2
  o50 : ∃ o, ops5[0]? = some o ∧ o.op = .move (.tmp 3) ∧ o.dst = some 10 ∧ o.guard = none
  o51 : ∃ o, ops5[1]? = some o ∧ o.op = .range tM (.tmp 10) ∧ o.dst = some 11 ∧ o.guard = none
  ut : P.underlying tM = some (.map tk te)
  i9 : compItems P ng N ops9 ops9.toList = some [⟨some (ix 20), none, .r (.bin .add (.t (ix 7)) (.c (.int .i64 (.ofNat 1))))⟩, ⟨some (ix 7), none, .r (.mv (.t (ix 20)))⟩]
  hN : 21 ≤ N
abbrev Ents := List (Ix × List Ent × Nat)
def Ents.maps (l : Ents) : List AV := l.map fun x => .map x.1
def Ents.objs (l : Ents) : List (Ix × AObj) := l.map fun x => (x.1, .map x.2.1 x.2.2)
def Ents.vals (l : Ents) : List AV := l.flatMap fun x => x.2.1.map (·.2.1)
def outerBody (id3 id4 id5 id9 : Nat) (ops3 ops4 ops5 ops9 : Array Oper) (b0 b1 b2 : Nat) (inner : Code) : Code :=
  .seq (.region id3 ops3 false) (.seq (.cond (.tmp 8) .skip (.exit b0)) (.seq (.block b1 (.seq (.region id4 ops4 false) (.seq (.region id5 ops5 false) (.block b2 (.loop inner))))) (.region id9 ops9 false)))
theorem fw_nat {n : Nat} (h : n < 9223372036854775808) : fw .i64 (.ofNat n) = .ofNat n := by
  show (if Nat.blt n 9223372036854775808 then _ else _) = _
  rw [if_pos (by rw [blt_decide]; simpa using h)]
theorem Perm.append_mid {α : Type} {a b c : List α} (h : a.Perm b) : (a ++ c).Perm (b ++ c) := h.append_right c
theorem outer_loop {ops3 ops4 ops5 ops6 ops7 ops8 ops9 : Array Oper} {tM tk te : TypeId} {es : Ents} (CI : InnerCode P ng N e ops6 ops7 ops8) (CO : OuterCode P ng N e tM tk te ops3 ops4 ops5 ops9 es.length) {id3 id4 id5 id6 id7 id8 id9 b0 b1 b2 b3 : Nat} (hb12 : b0 ≠ b1)
    (hOs : ∀ p ∈ es.objs, p ∈ Os) (hgood : ∀ x ∈ es, (∀ y ∈ x.2.1, y.2.2 < x.2.2) ∧ (x.2.1.map (·.2.2)).Nodup ∧ ∀ y ∈ x.2.1, ∃ n l, y.2.1 = .str n l) (hlen : es.vals.length < 400000) (hlen2 : es.length < 900000) {Q : Exit → Act → World → Prop} :
    ∀ (k i : Nat) (σ : Sig) (A : AW) (w : World) (a : Act) (tm : T AV) (ss : List AV), i + k = es.length → St (ctx P ng) N e σ₀ A₀ w₀ (.agg es.maps) (.int .i64 (.ofNat i)) Os ss σ A w a tm → (ss ++ Ents.vals (es.drop i)).Perm es.vals →
      (∀ σ' A' w' a' tm' ss', St (ctx P ng) N e σ₀ A₀ w₀ (.agg es.maps) (.int .i64 (.ofNat es.length)) Os ss' σ' A' w' a' tm' → ss'.Perm es.vals → Q (.exit b0) a' w') →
      LoopW (wideR none) 0 P (outerBody id3 id4 id5 id9 ops3 ops4 ops5 ops9 b0 b1 b2 (innerBody id6 id7 id8 ops6 ops7 ops8 b2 b3)) Q a w := by
  intro k
  have hN := CO.hN
  have test : ∀ (i : Nat) (σ : Sig) (A : AW) (w : World) (a : Act) (tm : T AV) (ss : List AV) (K : Exit → Act → World → Prop), St (ctx P ng) N e σ₀ A₀ w₀ (.agg es.maps) (.int .i64 (.ofNat i)) Os ss σ A w a tm →
      (∀ σ' w' a' tm', St (ctx P ng) N e σ₀ A₀ w₀ (.agg es.maps) (.int .i64 (.ofNat i)) Os ss σ' A w' a' tm' → tm'.get (ix 8) = some (.bool (decide (i < es.length))) → K .normal a' w') → (Code.region id3 ops3 false).wpIn (wideR none) 0 P K a w := by
    intro i σ A w a tm ss K S hK
    refine S.reg CO.i3 (tm' := T.set (some (.bool (decide (i < es.length)))) (ix 8) tm) ?_ (T.get_set_ne _ _ _ _ (ixne (by decide))) (T.get_set_ne _ _ _ _ (ixne (by decide))) (by rw [T.get_set_ne _ _ _ _ (ixne (by decide))]; exact S.x7) fun σ' w' a' _ S' => hK σ' w' a' _ S' (T.get_set_same _ _ _)
    have hlt : ilt (Int.ofNat i) (Int.ofNat es.length) = decide (i < es.length) := by simp [ilt, blt_decide]
    simp only [regK, stepK, wantK, doK, rdK, opdK, S.x7, binK, if_true, intBinK, boolK_eq, hlt, putK, T.setK_eq, orUndef]
  induction k with
  | zero =>
    intro i σ A w a tm ss hik S hperm hQ
    have hi : i = es.length := by omega
    subst hi
    refine LoopW.step (wpIn_seq (test _ σ A w a tm ss _ S fun σ' w' a' tm' S' h8 => ?_))
    show (Code.seq _ _).wpIn _ _ _ _ _ _
    simp only [Nat.lt_irrefl, decide_false] at h8
    refine wpIn_seq (wpIn_cond_false (S'.ar.slot h8).bool_inv (wpIn_exit ?_))
    exact hQ σ' A w' a' tm' ss S' (by simpa [Ents.vals] using hperm)
  | succ k ih =>
    intro i σ A w a tm ss hik S hperm hQ
    have hi : i < es.length := by omega
    refine LoopW.step (wpIn_seq (test _ σ A w a tm ss _ S fun σ' w' a' tm' S' h8 => ?_))
    show (Code.seq _ _).wpIn _ _ _ _ _ _
    simp only [hi, decide_true] at h8
    refine wpIn_seq (wpIn_cond_true (S'.ar.slot h8).bool_inv (wpIn_skip ?_))
    show (Code.seq _ _).wpIn _ _ _ _ _ _
    refine wpIn_seq (wpIn_block (wpIn_seq ?_))
    obtain ⟨x, hx⟩ : ∃ x, es[i]? = some x := ⟨es[i], List.getElem?_eq_getElem hi⟩
    have hxm : x ∈ es := List.mem_of_getElem? hx
    have hmi : es.maps[i]? = some (.map x.1) := by simp [Ents.maps, hx]
    refine S'.reg CO.i4 (tm' := T.set (some (.map x.1)) (ix 3) (T.set (some (.map x.1)) (ix 9) tm')) (I' := .int .i64 (.ofNat i)) ?_ (by rw [T.get_set_ne _ _ _ _ (ixne (by decide)), T.get_set_ne _ _ _ _ (ixne (by decide))]) (by rw [T.get_set_ne _ _ _ _ (ixne (by decide)), T.get_set_ne _ _ _ _ (ixne (by decide))])
      (by rw [T.get_set_ne _ _ _ _ (ixne (by decide)), T.get_set_ne _ _ _ _ (ixne (by decide))]; exact S'.x7) fun σ2 w2 a2 _ S2 => ?_
    · have hbl : Nat.blt i es.length = true := by rw [blt_decide]; simpa using hi
      have g9 : (T.set (some (AV.map x.1)) (ix 9) tm').get (ix 9) = some (.map x.1) := T.get_set_same _ _ _
      simp only [regK, stepK, wantK, doK, rdK, opdK, S'.x6, S'.x7, idxAK, hbl, Bool.false_eq_true, if_false, partK, Nat.mul_one, hmi, putK, T.setK_eq, orUndef, g9]
    show (Code.seq _ _).wpIn _ _ _ _ _ _
    refine wpIn_seq (wpIn_region ?_)
    rw [CO.n5]
    show wpOpsIn (wideR none) 0 P ops5 _ [0, 1] a2 w2
    obtain ⟨o0, h00, h01, h02, h03⟩ := CO.o50
    obtain ⟨o1, h10, h11, h12, h13⟩ := CO.o51
    have h3 := S2.ar.slot (d := 3) (T.get_set_same _ _ _)
    obtain ⟨m, hm, hev3⟩ : ∃ m, σ2 x.1 = some m ∧ a2.eval (.tmp 3) = .map (some m) := by
      generalize hu : a2.eval (.tmp 3) = u at h3
      cases h3 with
      | map h => exact ⟨_, h, rfl⟩
    have hrun0 : (execOp a2.eval o0).run P w2 = .ok (.value (.map (some m))) w2 := by
      simp only [execOp, h01, hev3]; rfl
    refine wpOps_val h00 h03 hrun0 ?_
    rw [h02]
    have S3 := S2.put (d := 10) (by decide) (by decide) (by decide) (by omega) (v := .map x.1) (v' := .map (some m)) (.map hm)
    have hev10 : (a2.put (some 10) (Value.map (some m))).eval (.tmp 10) = .map (some m) := by
      show (a2.tmps.setIfInBounds 10 _).getD 10 undef = _
      have h3 := S2.ar.sz
      have : 10 < a2.tmps.size := by omega
      simp [Array.getD_eq_getD_getElem?, Array.getElem?_setIfInBounds, this]
    have hobj : (x.1, AObj.map x.2.1 x.2.2) ∈ Os := hOs _ (List.mem_map.2 ⟨x, hxm, rfl⟩)
    obtain ⟨c, O, hc, hO, hr⟩ := S3.rel.live _ _ (S3.obs _ hobj)
    rw [hm] at hc; cases hc
    cases hr with
    | map hes =>
      rename_i cs
      have hrunR := run_rangeMap (P := P) CO.ut hO
      have hrun1 : (execOp (a2.put (some 10) (Value.map (some m))).eval o1).run P w2 = .ok (.value (.pointer (some ⟨w2.heap.size, 0, none⟩))) { w2 with heap := w2.heap.push (.mapIter (some m) x.2.2 #[] x.2.2) } := by
        simp only [execOp, h11, hev10, Sem.run_bind, hrunR, Result.andThen_ok, Sem.run_pure]
      refine wpOps_val h10 h13 hrun1 ?_
      rw [h12]
      have hEn := Ext.new S3.rel (o := .miter (some x.1) x.2.2 [] x.2.2) (O := .mapIter (some m) x.2.2 #[] x.2.2) ((ORel.miter (X := ctx P ng) (σ := σ2) hm (by simp)).mono (S3.rel.le_put _))
      have hEf := Ext.forget hEn.rel A.next
      have hE := hEn.trans hEf
      generalize hσ : σ2.put A.next w2.heap.size (Obj.ncells (.mapIter (some m) x.2.2 #[] x.2.2)) = σ3 at hE hEn hEf
      have hptr : σ3 A.next = some w2.heap.size := by rw [← hσ]; exact Sig.put_same _ _ _ _
      have hget : ∀ b q, A.heap.get b = some q → (T.set none A.next (A.new (.miter (some x.1) x.2.2 [] x.2.2)).heap).get b = some q := fun b q hb => by
        have hne := S3.rel.below.ne hb
        rw [T.get_set_ne _ _ _ _ hne]
        simp only [AW.new]
        rw [T.get_set_ne _ _ _ _ hne]; exact hb
      have hid : Hidden σ3 ⟨T.set none A.next (A.new (.miter (some x.1) x.2.2 [] x.2.2)).heap, (A.new (.miter (some x.1) x.2.2 [] x.2.2)).next⟩ w₀ { w2 with heap := w2.heap.push (.mapIter (some m) x.2.2 #[] x.2.2) } w2.heap.size (.mapIter (some m) x.2.2 #[] x.2.2) := by
        refine ⟨by simp, ?_, S3.kp.size⟩
        rintro ⟨b, q, hb, hbc⟩
        have hne : b ≠ A.next := fun e => by subst e; simp only [T.get_set_same] at hb; cases hb
        simp only [AW.new] at hb
        rw [T.get_set_ne _ _ _ _ hne, T.get_set_ne _ _ _ _ hne] at hb
        obtain ⟨c, _, hc, _⟩ := S3.rel.live b q hb
        have h1 := hE.le.at_ _ _ hc
        rw [hbc] at h1; cases h1
        have := S3.rel.range b _ hc
        omega
      obtain ⟨sl, hsl, hout⟩ := S3.out
      have S4 : St (ctx P ng) N e σ₀ A₀ w₀ (.agg es.maps) (.int .i64 (.ofNat i)) Os ss σ3 ⟨T.set none A.next (A.new (.miter (some x.1) x.2.2 [] x.2.2)).heap, (A.new (.miter (some x.1) x.2.2 [] x.2.2)).next⟩ { w2 with heap := w2.heap.push (.mapIter (some m) x.2.2 #[] x.2.2) } (a2.put (some 10) (.map (some m))) _ :=
        ⟨Sig.le_trans S3.le hE.le, hE.rel, S3.kp.trans hE.le hE.keeps, S3.ar.mono hE.le, ⟨sl, hsl, by
          rcases hout with h | ⟨b, t, h1, h2, h3, h4⟩
          · exact .inl h
          · exact .inr ⟨b, t, h1, h2, hget _ _ h3, h4⟩⟩, S3.x6, S3.x7, fun p hp => hget _ _ (S3.obs p hp), S3.obn⟩
      have S5 := S4.put (d := 11) (by decide) (by decide) (by decide) (by omega) (v := .ptr A.next 0) (v' := .pointer (some ⟨w2.heap.size, 0, none⟩)) (.ptr hptr)
      show (Code.block _ _).wpIn _ _ _ _ _ _
      refine wpIn_block (LoopW.loop ?_)
      obtain ⟨g1, g2, g3⟩ := hgood x hxm
      have hlx : x.2.1.length ≤ es.vals.length := by
        have : ∀ (l : Ents), x ∈ l → x.2.1.length ≤ l.vals.length := by
          intro l hl
          induction l with
          | nil => cases hl
          | cons y l ih =>
            simp only [Ents.vals, List.flatMap_cons, List.length_append, List.length_map]
            rcases List.mem_cons.1 hl with rfl | hl
            · omega
            · have := ih hl; simp only [Ents.vals] at this; omega
        exact this es hxm
      have hssl : ss.length ≤ es.vals.length := by
        have := hperm.length_eq
        simp at this; omega
      refine inner_loop CI (ss0 := ss) (bm := x.1) (br := A.next) (esA := x.2.1) (clock := x.2.2) hobj g1 g2 g3 (by omega) (leftA x.2.1 #[]).length σ3 _ _ _ _ ss [] w2.heap.size m #[] x.2.2 rfl S5 (T.get_set_same _ _ _) hptr (hE.le.at_ _ _ hm) (Nat.le_refl _) hid (by simp) (by rw [leftA_nil]; exact List.Perm.refl _) fun σ6 A6 w6 a6 tm6 ss6 S6 hp6 => ?_
      show Exit.inBlock b2 _ (.exit b2) a6 w6
      simp only [Exit.inBlock, if_true]
      show (Code.region _ _ _).wpIn _ _ _ _ _ _
      refine S6.reg CO.i9 (tm' := T.set (some (.int .i64 (.ofNat (i + 1)))) (ix 7) (T.set (some (.int .i64 (.ofNat (i + 1)))) (ix 20) tm6)) (I' := .int .i64 (.ofNat (i + 1))) ?_ (by rw [T.get_set_ne _ _ _ _ (ixne (by decide)), T.get_set_ne _ _ _ _ (ixne (by decide))]) (by rw [T.get_set_ne _ _ _ _ (ixne (by decide)), T.get_set_ne _ _ _ _ (ixne (by decide))])
        (T.get_set_same _ _ _) fun σ7 w7 a7 _ S7 => ?_
      · have hadd : Int.add (Int.ofNat i) (Int.ofNat 1) = Int.ofNat (i + 1) := rfl
        have hfw : fw .i64 (Int.ofNat (i + 1)) = Int.ofNat (i + 1) := fw_nat (by omega)
        have g20 : (T.set (some (AV.int .i64 (.ofNat (i + 1)))) (ix 20) tm6).get (ix 20) = some (.int .i64 (.ofNat (i + 1))) := T.get_set_same _ _ _
        simp only [regK, stepK, wantK, doK, rdK, opdK, S6.x7, binK, if_true, intBinK, hadd, hfw, intK_eq, putK, T.setK_eq, orUndef, g20]
      show LoopW _ _ _ _ _ a7 w7
      refine ih (i + 1) σ7 A6 w7 a7 _ (ss ++ ss6) (by omega) S7 ?_ hQ
      have hd : es.drop i = x :: es.drop (i + 1) := by
        rw [List.drop_eq_getElem_cons hi]
        congr 1
        rw [List.getElem?_eq_getElem hi] at hx
        exact Option.some.inj hx
      rw [hd] at hperm
      refine List.Perm.trans ?_ hperm
      simp only [Ents.vals, List.flatMap_cons, List.append_assoc]
      exact (List.Perm.refl ss).append (hp6.append_right _)
end Go.Abs
end
section
namespace Go.Abs
open Go.Sort
open Go.Proofs (encStr)
variable {P : Program} {ng : Nat}
theorem wpOps_call {ro : Option Nat} {ops : Array Oper} {i : Nat} {o : Oper} {rest : List Nat} {a : Act} {w : World} {f : FuncId} {args : Array Value} {Q : Exit → Act → World → Prop} (hi : ops[i]? = some o) (hg : o.guard = none)
    (hrun : (execOp a.eval o).run P w = .ok (.enter f args) w) (hC : CallsIn Fence.wide 0 P f args w fun e w' => ∃ v, e = .returned v ∧ wpOpsIn (wideR ro) 0 P ops Q rest (a.put o.dst v) w') : wpOpsIn (wideR ro) 0 P ops Q (i :: rest) a w := by
  rw [wpOpsIn_cons]
  simp only [wpOpIn, hi, Region.wanted, hg, if_true]
  refine wpIn_of_run (X := ⟨P, 0⟩) hrun (fun d => by simp) ?_
  rw [Oper.uponIn_enter]
  refine ⟨fun hd => (by cases hd), ?_⟩
  refine CallsIn.mono (F := wideR ro) (show CallsIn (wideR ro) 0 P f _ w _ from hC) ?_
  rintro e w' ⟨v, rfl, h⟩
  exact h
theorem wpOps_fnRun {ro : Option Nat} {ops : Array Oper} {i : Nat} {o : Oper} {rest : List Nat} {a : Act} {w : World} {f : FuncId} {args : List AV} {args' : Array Value} {A A' : AW} {v : AV} {σ : Sig} {Q : Exit → Act → World → Prop} (hi : ops[i]? = some o) (hg : o.guard = none)
    (hv : FnRun (ctx P ng) f args A v A') (hw : WRel (ctx P ng) σ A w) (ha : VsRel σ args args'.toList) (hrun : (execOp a.eval o).run P w = (callFunc f args').run P w)
    (hK : ∀ σ' w' v', Go.Abs.Ext (ctx P ng) σ A w σ' A' w' → VRel σ' v v' → wpOpsIn (wideR ro) 0 P ops Q rest (a.put o.dst v') w') : wpOpsIn (wideR ro) 0 P ops Q (i :: rest) a w := by
  rw [wpOpsIn_cons]
  simp only [wpOpIn, hi, Region.wanted, hg, if_true]
  exact fnRun_ok (X := ctx P ng) hv hw ha hrun hK
def strA (l : List UInt8) : AV := .str l.length (l.map UInt8.toNat)
def unA : AV → List UInt8
  | .str _ l => l.map UInt8.ofNat
  | _ => []
theorem unA_strA (l : List UInt8) : unA (strA l) = l := by simp [unA, strA, Function.comp_def]
theorem perm_str {ss : List AV} {strs : List (List UInt8)} (h : ss.Perm (strs.map strA)) : ∃ ss' : List (List UInt8), ss = ss'.map strA ∧ ss'.Perm strs := by
  refine ⟨ss.map unA, ?_, ?_⟩
  · rw [List.map_map]
    refine (List.map_id ss).symm.trans (List.map_congr_left fun x hx => ?_)
    obtain ⟨l, _, rfl⟩ := List.mem_map.1 (h.subset hx)
    simp [unA_strA]
  · have := h.map unA
    rw [List.map_map] at this
    have e : (unA ∘ strA) = id := funext unA_strA
    rwa [e, List.map_id] at this
theorem VRel.strA {σ : Sig} {l : List UInt8} {v : Value} (h : VRel σ (strA l) v) : v = encStr l := by
  unfold Go.Abs.strA at h
  cases h with
  | str h hn =>
    rename_i s
    have : s.data.toList = l := by
      have := congrArg (List.map UInt8.ofNat) h
      simpa [strBytes, Function.comp_def] using this
    show Value.string s = Value.string ⟨l.toArray⟩
    congr 1
    cases s; simp at this; simp [← this]
theorem VRel.enc {σ : Sig} (l : List UInt8) : VRel σ (Go.Abs.strA l) (encStr l) := by
  refine .str ?_ ?_
  · simp [strBytes]
  · simp [ByteArray.size]
theorem VsRel.enc {σ : Sig} : ∀ (l : List (List UInt8)), VsRel σ (l.map Go.Abs.strA) (l.map encStr)
  | [] => .nil
  | x :: l => .cons (.enc x) (VsRel.enc l)
structure OpersCode (P : Program) (N : Nat) (gl gs gc : FuncId) (ops0 ops1 ops2 ops10 ops11 : Array Oper) : Prop where
  n0 : ops0.size = 1
  n1 : ops1.size = 1
  n2 : ops2.size = 2
  n10 : ops10.size = 2
  n11 : ops11.size = 3
  o0 : ∃ o, ops0[0]? = some o ∧ o.op = .assign (.const (.slice none 0 0)) ∧ o.dst = some 0 ∧ o.guard = none
  o1 : ∃ o, ops1[0]? = some o ∧ o.op = .assign (.const (.slice none 0 0)) ∧ o.dst = some 1 ∧ o.guard = none
  o20 : ∃ o c, ops2[0]? = some o ∧ o.op = .call c ∧ c.callee = .value (.func gl) ∧ c.args = #[] ∧ o.dst = some 6 ∧ o.guard = none
  o21 : ∃ o, ops2[1]? = some o ∧ o.op = .move (.const (.int .i64 0)) ∧ o.dst = some 7 ∧ o.guard = none
  oa0 : ∃ o, ops10[0]? = some o ∧ o.op = .move (.tmp 1) ∧ o.dst = some 21 ∧ o.guard = none
  oa1 : ∃ o c, ops10[1]? = some o ∧ o.op = .call c ∧ c.callee = .value (.func gs) ∧ c.args = #[.tmp 21] ∧ o.dst = some 22 ∧ o.guard = none
  ob0 : ∃ o, ops11[0]? = some o ∧ o.op = .move (.tmp 1) ∧ o.dst = some 23 ∧ o.guard = none
  ob1 : ∃ o c, ops11[1]? = some o ∧ o.op = .call c ∧ c.callee = .value (.func gc) ∧ c.args = #[.tmp 23] ∧ o.dst = some 24 ∧ o.guard = none
  ob2 : ∃ o, ops11[2]? = some o ∧ o.op = .assign (.tmp 24) ∧ o.dst = some 0 ∧ o.guard = none
  hN : 25 ≤ N
def SortRun (P : Program) (gs : FuncId) : Prop := ∀ (blk off cap : Nat) (ss : List (List UInt8)) (w : World), Holds encStr w blk off ss.toArray → blk < w.heap.size → ss.length < 4611686018427387904 →
  Calls P gs #[.slice (some ⟨blk, off, none⟩) ss.length cap] w fun e w' => e = .returned (.tuple #[]) ∧ ∃ n os, w' = grow (putRow encStr (Go.Sort.ahead w n) blk off (ss.mergeSort fun x y => decide (x ≤ y)).toArray) os
theorem run_call {o : Oper} {c : Call} {f : FuncId} {a : Act} {w : World} (ho : o.op = .call c) (hc : c.callee = .value (.func f)) : (execOp a.eval o).run P w = (callFunc f (c.args.map a.eval)).run P w := by
  simp only [execOp, ho, resolve, hc, Act.eval, Deferred.ofValue, Sem.run_bind, Sem.run_pure, Result.andThen_ok, invoke]
  simp
theorem eval_put {a : Act} {d : Nat} {v : Value} (h : d < a.tmps.size) : (a.put (some d) v).eval (.tmp d) = v := by
  show (a.tmps.setIfInBounds d v).getD d undef = v
  simp [Array.getD_eq_getD_getElem?, Array.getElem?_setIfInBounds, h]
theorem eval_put_ne {a : Act} {d t : Nat} {v : Value} (h : t ≠ d) : (a.put (some d) v).eval (.tmp t) = a.eval (.tmp t) := by
  show (a.tmps.setIfInBounds d v).getD t undef = a.tmps.getD t undef
  have : ¬ d = t := fun e => h e.symm
  simp [Array.getD_eq_getD_getElem?, Array.getElem?_setIfInBounds, this]
theorem sorted_world {A : AW} {σ₀ σ : Sig} {w₀ w : World} {srt : List (List UInt8)} {c : Nat} {cs : Array Value} {e : TypeId} {ss : List (List UInt8)} {n₁ : Nat} {os : Array Obj} (hw₀ : WRel (ctx P ng) σ₀ ⟨.nil, ix ng⟩ w₀) (kp : Keeps σ₀ ⟨.nil, ix ng⟩ w₀ σ A w)
    (hle : Sig.le σ₀ σ) (hrel : WRel (ctx P ng) σ A w) (hO : w.heap[c]? = some (.cells cs e (0, 0))) (hnew : w₀.heap.size ≤ c) (hsrt : ss.mergeSort leB = srt) (hlen : srt.length ≤ cs.size) (hsl : ss.length = srt.length) :
    Go.Abs.Ext (ctx P ng) σ₀ ⟨.nil, ix ng⟩ w₀ (σ₀.put (ix ng) c cs.size) ⟨T.set (some (.cells (Go.Abs.setRow .nil 0 (srt.map strA)) srt.length e true)) (ix ng) .nil, (ix ng).succ⟩ (grow (putRow encStr (Go.Sort.ahead w n₁) c 0 (ss.mergeSort fun x y => decide (x ≤ y)).toArray) os) := by
  have hs : (ss.mergeSort fun x y => decide (x ≤ y)) = srt := hsrt
  rw [hs]
  have hlt : c < w.heap.size := (Array.getElem?_eq_some_iff.1 hO).1
  have hsz : (putRow encStr (Go.Sort.ahead w n₁) c 0 srt.toArray).heap.size = w.heap.size := by simp [putRow, mapBlock, ahead]
  have hother : ∀ d, d < w.heap.size → d ≠ c → (grow (putRow encStr (Go.Sort.ahead w n₁) c 0 srt.toArray) os).heap[d]? = w.heap[d]? := by
    intro d hd hne
    have hne' : ¬ c = d := fun e => hne e.symm
    simp only [grow]
    rw [Array.getElem?_append_left (by rw [hsz]; exact hd)]
    simp [putRow, mapBlock, ahead, Array.getElem?_modify, hne']
  have hthis : (grow (putRow encStr (Go.Sort.ahead w n₁) c 0 srt.toArray) os).heap[c]? = some (.cells (putCells encStr 0 srt.toArray cs) e (0, 0)) := by
    simp only [grow]
    rw [Array.getElem?_append_left (by rw [hsz]; exact hlt)]
    simp [putRow, mapBlock, ahead, Array.getElem?_modify, hO, onCells]
  have hput : ∀ j, j < srt.length → (putCells encStr 0 srt.toArray cs)[j]? = some (encStr srt[j]!) := by
    intro j hj
    have hjc : j < cs.size := by omega
    simp only [putCells, Array.getElem?_mapIdx]
    rw [Array.getElem?_eq_getElem hjc]
    simp [hj]
  have hpsz : (putCells encStr 0 srt.toArray cs).size = cs.size := by simp [putCells]
  have h0none : σ₀ (ix ng) = none := hw₀.next_none
  have hgrow : w.heap.size ≤ (grow (putRow encStr (Go.Sort.ahead w n₁) c 0 srt.toArray) os).heap.size := by simp [grow, hsz]
  have hle' : Sig.le σ₀ (σ₀.put (ix ng) c cs.size) := Sig.le_put _ _ h0none fun b hb => by
    have := hw₀.range b c hb; omega
  have hsv : (ix ng).succ.val = ng + 1 := by rw [Ix.val_succ, ix_val]
  have hkpsz := kp.size
  have hold : ∀ d, d < w₀.heap.size → (grow (putRow encStr (Go.Sort.ahead w n₁) c 0 srt.toArray) os).heap[d]? = w₀.heap[d]? := fun d hd => by
    rw [hother d (by omega) (by omega)]
    exact kp.keep d hd (fun ⟨b, q, hb, _⟩ => by simp at hb)
  refine ⟨hle', ⟨?_, ?_, ?_, ?_, ?_, fun g hg => hle'.at_ _ _ (hw₀.glob g hg)⟩, ⟨by omega, fun d hd _ => hold d hd, ?_, ?_, fun b hb => ?_, ?_, ?_, ?_, ?_⟩⟩
  · intro b q hb
    rw [T.get_set] at hb
    by_cases hbn : b = ix ng
    · subst hbn
      rw [if_pos rfl] at hb; cases hb
      refine ⟨c, _, Sig.put_same _ _ _ _, hthis, .cells (by rw [hpsz]; exact hlen) (fun x v hx => by have := ofList_lt hx; simpa using this) (fun x v hx => ?_) (fun _ => rfl)⟩
      have hr : TRel (σ₀.put (ix ng) c cs.size) (Go.Abs.setRow .nil 0 (srt.map strA)) (srt.map encStr).toArray := TRel.ofList (VsRel.enc srt)
      obtain ⟨v', h1, h2⟩ := hr x v hx
      have hxl : x.val < srt.length := by have := ofList_lt hx; simpa using this
      refine ⟨v', ?_, h2⟩
      rw [hput _ hxl, ← h1]
      simp [hxl]
    · rw [if_neg hbn] at hb; simp at hb
  · intro b d cs' e' fr hd hO'
    by_cases hbn : b = ix ng
    · subst hbn
      rw [Sig.put_same] at hd; cases hd
      rw [hthis] at hO'; cases hO'
      rw [Sig.put_sz, hpsz]
    · rw [Sig.put_ne _ _ _ hbn] at hd
      have hdlt := hw₀.range b d hd
      have hdc : d ≠ c := by omega
      rw [Sig.put_sz_ne _ _ _ hdc]
      rw [hold d hdlt] at hO'
      exact hw₀.size b d cs' e' fr hd hO'
  · intro b b' q q' d hb hb' _ _
    rw [T.get_set] at hb hb'
    by_cases h1 : b = ix ng
    · by_cases h2 : b' = ix ng
      · rw [h1, h2]
      · rw [if_neg h2] at hb'; simp at hb'
    · rw [if_neg h1] at hb; simp at hb
  · intro b hb
    have hbn : b ≠ ix ng := fun e => by subst e; rw [ix_val] at hb; simp only at hb; omega
    rw [Sig.put_ne _ _ _ hbn]
    exact hw₀.fresh b (by simp only [ix_val]; simp only at hb; omega)
  · intro b d hd
    by_cases hbn : b = ix ng
    · subst hbn; rw [Sig.put_same] at hd; cases hd; omega
    · rw [Sig.put_ne _ _ _ hbn] at hd
      have := hw₀.range b d hd; omega
  · rintro d ⟨b, q, hb, hd⟩
    rw [T.get_set] at hb
    by_cases hbn : b = ix ng
    · subst hbn; rw [Sig.put_same] at hd; cases hd; exact .inr hnew
    · rw [if_neg hbn] at hb; simp at hb
  · intro b d h1 h2
    by_cases hbn : b = ix ng
    · subst hbn; rw [Sig.put_same] at h2; cases h2; exact .inr hnew
    · rw [Sig.put_ne _ _ _ hbn, h1] at h2; cases h2
  · have hbn : b ≠ ix ng := fun e => by subst e; simp at hb
    rw [Sig.put_ne _ _ _ hbn]
  · simp only [ix_val]; omega
  · exact kp.os
  · exact kp.output
  · exact kp.tape
end Go.Abs
end
