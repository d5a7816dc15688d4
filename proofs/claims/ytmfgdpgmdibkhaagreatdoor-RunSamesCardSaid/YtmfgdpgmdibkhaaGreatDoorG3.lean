/- RunSames (cabinetrylaw21): a part of the proof that the law's function answers true, whatever it is handed; its conditions are those of the given card. -/
import Derived.Test.YtmfgdpgmdibkhaaGreatDoorG2
import Derived.Orders
import GoSem.Claims
import GoSem.ClaimFn
import GoSem.ClaimSeven
import Derived.JoinedOf
import Derived.KernelRfl
import Derived.LaidOnce
import Derived.Handed
section
namespace Go.Abs
open Go.Sort
open Go.Proofs (encStr)
variable {P : Program} {ng : Nat}
def opersCode (id0 id1 id2 id3 id4 id5 id6 id7 id8 id9 id10 id11 b0 b1 b2 b3 : Nat) (ops0 ops1 ops2 ops3 ops4 ops5 ops6 ops7 ops8 ops9 ops10 ops11 : Array Oper) : Code :=
  .seq (.region id0 ops0 false) (.seq (.region id1 ops1 false) (.seq (.seq (.region id2 ops2 false) (.block b0 (.loop (outerBody id3 id4 id5 id9 ops3 ops4 ops5 ops9 b0 b1 b2 (innerBody id6 id7 id8 ops6 ops7 ops8 b2 b3)))))
    (.seq (.region id10 ops10 false) (.seq (.region id11 ops11 false) .ret))))
def rowW (ng : Nat) (e : TypeId) (srt : List (List UInt8)) : AW := ⟨T.set (some (.cells (Go.Abs.setRow .nil 0 (srt.map strA)) srt.length e true)) (ix ng) .nil, (ix ng).succ⟩
theorem defers_nil {σ : Sig} {ds : List Deferred} (h : DRel σ [] ds) : ds = [] := by cases h; rfl
theorem opers_run {f gl gs gc : FuncId} {fn : Func} {N : Nat} {e tM tk te : TypeId} {id0 id1 id2 id3 id4 id5 id6 id7 id8 id9 id10 id11 b0 b1 b2 b3 : Nat} {ops0 ops1 ops2 ops3 ops4 ops5 ops6 ops7 ops8 ops9 ops10 ops11 : Array Oper}
    (hget : P.funcs[f]? = some fn) (hname : (fn.name == "runtime.NumGoroutine") = false) (hres : fn.results = #[.tmp 0]) (hnt : fn.ntmps = N)
    (hbody : fn.body = some (opersCode id0 id1 id2 id3 id4 id5 id6 id7 id8 id9 id10 id11 b0 b1 b2 b3 ops0 ops1 ops2 ops3 ops4 ops5 ops6 ops7 ops8 ops9 ops10 ops11)) (hb12 : b0 ≠ b1)
    {es : Ents} (OC : OpersCode P N gl gs gc ops0 ops1 ops2 ops10 ops11) (CI : InnerCode P ng N e ops6 ops7 ops8) (CO : OuterCode P ng N e tM tk te ops3 ops4 ops5 ops9 es.length)
    {AL : AW} (hl : FnRun (ctx P ng) gl [] ⟨.nil, ix ng⟩ (.agg es.maps) AL) (hAL : ∀ p ∈ es.objs, AL.heap.get p.1 = some p.2)
    (hgood : ∀ x ∈ es, (∀ y ∈ x.2.1, y.2.2 < x.2.2) ∧ (x.2.1.map (·.2.2)).Nodup ∧ ∀ y ∈ x.2.1, ∃ n l, y.2.1 = .str n l) (hlen : es.vals.length < 400000) (hlen2 : es.length < 900000)
    (hs : SortRun P gs) (hsf : FnOk P gs) {strs srt : List (List UInt8)} (hvals : es.vals = strs.map strA) (hsrt : strs.mergeSort leB = srt) (hne : strs ≠ [])
    {v : AV} {B : AW} (hc : FnRun (ctx P ng) gc [.slice (ix ng) 0 srt.length srt.length 1] (rowW ng e srt) v B) : FnRun (ctx P ng) f [] ⟨.nil, ix ng⟩ v B := by
  intro σ₀ w₀ args' hw₀ ha
  refine .inl ⟨⟨fn, hget, hname, by rw [hbody]; rfl⟩, ?_⟩
  refine callsIn_of_wp_marks hget hbody trivial ?_
  have har := AR.args ha fn.ntmps
  rw [hnt] at har ⊢
  generalize ({ tmps := args' ++ Array.replicate (N - args'.size) undef, defers := [] } : Act) = a at har ⊢
  have hN := OC.hN
  obtain ⟨o0, p01, p02, p03, p04⟩ := OC.o0
  obtain ⟨o1, p11, p12, p13, p14⟩ := OC.o1
  obtain ⟨o20, c20, p21, p22, p23, p24, p25, p26⟩ := OC.o20
  obtain ⟨o21, q21, q22, q23, q24⟩ := OC.o21
  obtain ⟨oa0, q31, q32, q33, q34⟩ := OC.oa0
  obtain ⟨oa1, ca1, q41, q42, q43, q44, q45, q46⟩ := OC.oa1
  obtain ⟨ob0, q51, q52, q53, q54⟩ := OC.ob0
  obtain ⟨ob1, cb1, q61, q62, q63, q64, q65, q66⟩ := OC.ob1
  obtain ⟨ob2, q71, q72, q73, q74⟩ := OC.ob2
  refine wpIn_seq (wpIn_region ?_)
  rw [OC.n0]
  show wpOpsIn (wideR none) 0 P ops0 _ [0] a w₀
  refine wpOps_val p01 p04 (v := .slice none 0 0) (w' := w₀) (by simp only [execOp, p02]; rfl) ?_
  rw [p03]
  have har := har.putT (d := 0) (by omega) (v := .nslice) (v' := .slice none 0 0) .nslice
  generalize a.put (some 0) (.slice none 0 0) = a at har ⊢
  show (Code.seq _ _).wpIn _ _ _ _ _ _
  refine wpIn_seq (wpIn_region ?_)
  rw [OC.n1]
  show wpOpsIn (wideR none) 0 P ops1 _ [0] a w₀
  refine wpOps_val p11 p14 (v := .slice none 0 0) (w' := w₀) (by simp only [execOp, p12]; rfl) ?_
  rw [p13]
  have har := har.putT (d := 1) (by omega) (v := .nslice) (v' := .slice none 0 0) .nslice
  generalize a.put (some 1) (.slice none 0 0) = a at har ⊢
  show (Code.seq _ _).wpIn _ _ _ _ _ _
  refine wpIn_seq ?_
  refine wpIn_seq (wpIn_region ?_)
  rw [OC.n2]
  show wpOpsIn (wideR none) 0 P ops2 _ [0, 1] a w₀
  refine wpOps_fnRun p21 p26 hl hw₀ (args' := c20.args.map a.eval) (by rw [p24]; simp; exact .nil) (run_call p22 p23) fun σ₁ w₁ v₁ hE₁ hv₁ => ?_
  rw [p25]
  have har := (har.mono hE₁.le).putT (d := 6) (by omega) hv₁
  generalize a.put (some 6) v₁ = a at har ⊢
  refine wpOps_val q21 q24 (v := .int .i64 0) (w' := w₁) (by simp only [execOp, q22]; rfl) ?_
  rw [q23]
  have har := har.putT (d := 7) (by omega) (v := .int .i64 0) (v' := .int .i64 0) (.int _ _)
  generalize a.put (some 7) (.int .i64 0) = a at har ⊢
  show (Code.block _ _).wpIn _ _ _ _ _ _
  have S : St (ctx P ng) N e σ₀ ⟨.nil, ix ng⟩ w₀ (.agg es.maps) (.int .i64 (.ofNat 0)) es.objs [] σ₁ AL w₁ a _ :=
    ⟨hE₁.le, hE₁.rel, hE₁.keeps, har, ⟨.nslice, by rw [T.get_set_ne _ _ _ _ (ixne (by decide)), T.get_set_ne _ _ _ _ (ixne (by decide)), T.get_set_same], .inl ⟨rfl, rfl⟩⟩, by rw [T.get_set_ne _ _ _ _ (ixne (by decide)), T.get_set_same], by rw [T.get_set_same]; rfl,
      hAL, fun p hp => by obtain ⟨x, _, rfl⟩ := List.mem_map.1 hp; intro t n e c hh; cases hh⟩
  refine wpIn_block (LoopW.loop (outer_loop CI CO hb12 (fun p hp => hp) hgood hlen hlen2 es.length 0 σ₁ AL w₁ a _ [] (by omega) S (by simp) fun σ₂ A₂ w₂ a ty ss S₂ hp => ?_))
  simp only [Exit.inBlock, if_true]
  show (Code.seq _ _).wpIn _ _ _ _ _ _
  rw [hvals] at hp
  obtain ⟨ss', rfl, hp'⟩ := perm_str hp
  obtain ⟨sl, hsl, hout⟩ := S₂.out
  rcases hout with ⟨h1, _⟩ | ⟨b, t, _, rfl, hb, ht⟩
  · have : ss' = [] := by simpa using h1
    subst this
    exact absurd hp'.symm.eq_nil hne
  have hslot := S₂.ar.slot hsl
  obtain ⟨c, O, hcb, hO, hr⟩ := S₂.rel.live _ _ hb
  cases hr with
  | cells hn hk htr hcl =>
    rename_i cs fr
    obtain rfl := hcl rfl
    have hszc := S₂.rel.size b c cs e _ hcb hO
    have hcnew : w₀.heap.size ≤ c := by
      rcases S₂.kp.own c ⟨b, _, hb, hcb⟩ with ⟨b', q, h1, _⟩ | h
      · simp at h1
      · exact h
    have hlt : c < w₂.heap.size := S₂.rel.range b c hcb
    obtain ⟨cap, hev1, hcap⟩ : ∃ cap, a.eval (.tmp 1) = .slice (some ⟨c, 0, none⟩) ss'.length cap ∧ ss'.length ≤ cap ∧ cap = cs.size ∧ cap < 9223372036854775808 := by
      generalize hu : a.eval (.tmp 1) = u at hslot
      cases hslot with
      | slice h hc' he ho hm =>
        rw [hcb] at h; cases h
        have := ho (by decide)
        refine ⟨_, by simp, by simpa using hc', by omega, hm⟩
    have hds : a.defers = [] := defers_nil S₂.ar.df
    have hasz := S₂.ar.sz
    refine wpIn_seq (wpIn_region ?_)
    rw [OC.n10]
    show wpOpsIn (wideR none) 0 P ops10 _ [0, 1] a w₂
    refine wpOps_val q31 q34 (v := .slice (some ⟨c, 0, none⟩) ss'.length cap) (w' := w₂) (by simp only [execOp, q32, hev1]; rfl) ?_
    rw [q33]
    have hev21 : (a.put (some 21) (.slice (some ⟨c, 0, none⟩) ss'.length cap)).eval (.tmp 21) = .slice (some ⟨c, 0, none⟩) ss'.length cap := eval_put (by omega)
    refine wpOps_call q41 q46 (f := gs) (args := #[.slice (some ⟨c, 0, none⟩) ss'.length cap]) ((run_call q42 q43).trans ?_) (CallsIn.mono (callsIn_wide.2 (hs c 0 cap ss' w₂ ?_ hlt ?_)) ?_)
    · rw [q44]
      simp only [List.map_toArray, List.map_cons, List.map_nil, hev21]
      exact run_callFunc hsf _ _
    · intro j hj
      have hj : j < ss'.length := by simpa using hj
      have h1 := ht j (by simpa using hj)
      rw [List.getElem?_map, List.getElem?_eq_getElem hj] at h1
      obtain ⟨x, h2, h3⟩ := htr _ _ h1
      simp only [ix_val] at h2
      have h3 := VRel.strA h3
      subst h3
      refine ⟨?_, ?_⟩
      · simp [World.cell?, hO, h2, hj]
      · simp [World.frozen?, hO]
    · have := hp'.length_eq
      have h2 := congrArg List.length hvals
      simp at h2
      omega
    rintro en w₃ ⟨rfl, n₁, os, rfl⟩
    refine ⟨_, rfl, ?_⟩
    rw [q45]
    have hsrt' : ss'.mergeSort leB = srt := (mergeSort_of_perm hp').trans hsrt
    have hsl' : ss'.length = srt.length := by rw [← hsrt']; simp
    have hES := sorted_world (n₁ := n₁) (os := os) hw₀ S₂.kp S₂.le S₂.rel hO hcnew hsrt' (by rw [← hsl']; omega) hsl'
    generalize grow (putRow encStr (Go.Sort.ahead w₂ n₁) c 0 (ss'.mergeSort fun x y => decide (x ≤ y)).toArray) os = w₃ at hES ⊢
    have hev : ((a.put (some 21) (.slice (some ⟨c, 0, none⟩) ss'.length cap)).put (some 22) (.tuple #[])).eval (.tmp 1) = .slice (some ⟨c, 0, none⟩) ss'.length cap := by
      rw [eval_put_ne (by decide), eval_put_ne (by decide)]; exact hev1
    have hasz' : N ≤ ((a.put (some 21) (.slice (some ⟨c, 0, none⟩) ss'.length cap)).put (some 22) (.tuple #[])).tmps.size := by simpa [Act.put] using hasz
    have hds' : ((a.put (some 21) (.slice (some ⟨c, 0, none⟩) ss'.length cap)).put (some 22) (.tuple #[])).defers = [] := hds
    generalize ((a.put (some 21) (.slice (some ⟨c, 0, none⟩) ss'.length cap)).put (some 22) (.tuple #[])) = a at hev hasz' hds' ⊢
    show (Code.seq _ _).wpIn _ _ _ _ _ _
    refine wpIn_seq (wpIn_region ?_)
    rw [OC.n11]
    show wpOpsIn (wideR none) 0 P ops11 _ [0, 1, 2] a w₃
    refine wpOps_val q51 q54 (v := .slice (some ⟨c, 0, none⟩) ss'.length cap) (w' := w₃) (by simp only [execOp, q52, hev]; rfl) ?_
    rw [q53]
    have hev23 : (a.put (some 23) (.slice (some ⟨c, 0, none⟩) ss'.length cap)).eval (.tmp 23) = .slice (some ⟨c, 0, none⟩) ss'.length cap := eval_put (by omega)
    refine wpOps_fnRun q61 q66 hc hES.rel (args' := cb1.args.map (a.put (some 23) (.slice (some ⟨c, 0, none⟩) ss'.length cap)).eval) ?_ (run_call q62 q63) fun σ₄ w₄ v₄ hE₄ hv₄ => ?_
    · rw [q64]
      simp only [List.map_toArray, List.map_cons, List.map_nil, hev23]
      refine .cons ?_ .nil
      rw [hsl']
      refine .slice (Sig.put_same _ _ _ _) (by omega) (fun h => by cases h) (fun _ => ?_) hcap.2.2
      rw [Sig.put_sz]; omega
    rw [q65]
    have hev24 : ((a.put (some 23) (.slice (some ⟨c, 0, none⟩) ss'.length cap)).put (some 24) v₄).eval (.tmp 24) = v₄ := eval_put (by simp [Act.put]; omega)
    refine wpOps_val q71 q74 (v := v₄) (w' := w₄) (by simp only [execOp, q72, hev24]; rfl) ?_
    rw [q73]
    show Code.ret.wpIn _ _ _ _ _ _
    refine wpIn_ret ?_
    refine bodyPostM_of (e := .ret) (fun id hh => by cases hh) ?_
    show LeavesInM Fence.wide 0 P fn _ _ (Act.defers _) .returning w₄
    have hds'' : (((a.put (some 23) (.slice (some ⟨c, 0, none⟩) ss'.length cap)).put (some 24) v₄).put (some 0) v₄).defers = [] := hds'
    rw [hds'']
    refine ⟨v₄, ?_, v₄, σ₄, rfl, hES.trans hE₄, hv₄⟩
    have hg : (((a.put (some 23) (.slice (some ⟨c, 0, none⟩) ss'.length cap)).put (some 24) v₄).put (some 0) v₄).tmps.getD 0 undef = v₄ := eval_put (a := ((a.put (some 23) (.slice (some ⟨c, 0, none⟩) ss'.length cap)).put (some 24) v₄)) (d := 0) (by simp [Act.put]; omega)
    unfold results
    rw [hres]
    rw [Array.getD_eq_getD_getElem?] at hg
    simp [hg]
end Go.Abs
end
section
namespace Go.Abs
variable {P : Program} {ng : Nat}
theorem SumOk.of_run {s : Sum} (h : FnRun (ctx P ng) s.g s.args s.A s.v s.B) : SumOk P ng s := by
  intro args A hf
  simp only [Sum.fits, Bool.and_eq_true] at hf
  obtain ⟨⟨f1, f2⟩, f3⟩ := hf
  have f1 := beqL_eq (beqF_eq 8) f1
  have f2 := Ix.beq_eq f2
  subst f1
  intro σ w args' hw ha
  have hE0 := Ext.sub hw (subT_ok f3) f2
  rcases h σ w args' hE0.rel ha with ⟨hfn, hC⟩ | ⟨v', σ', w', hr, hE, hv⟩
  · refine .inl ⟨hfn, hC.mono ?_⟩
    rintro e w' ⟨v', σ', rfl, hE, hr⟩
    exact ⟨v', σ', rfl, hE0.trans hE, hr⟩
  · exact .inr ⟨v', σ', w', hr, hE0.trans hE, hv⟩
def Plain (v : AV) : Prop := ∀ σ σ' v', VRel σ v v' → VRel σ' v v'
theorem Plain.bool (b : Bool) : Plain (.bool b) := fun σ σ' v' h => by cases h; exact .bool b
theorem Plain.str (n : Nat) (l : List Nat) : Plain (.str n l) := fun σ σ' v' h => by
  cases h with
  | str h hn => exact .str h hn
theorem Plain.nslice : Plain .nslice := fun σ σ' v' h => by cases h; exact .nslice
theorem VsRel.plain {σ σ' : Sig} : ∀ {l : List AV} {vs : List Value}, (∀ v ∈ l, Plain v) → VsRel σ l vs → VsRel σ' l vs
  | _, _, _, .nil => .nil
  | _, _, h, .cons hv ht => .cons (h _ (List.mem_cons_self ..) _ _ _ hv) (VsRel.plain (fun v hm => h v (List.mem_cons_of_mem _ hm)) ht)
def Sig.globs (σ : Sig) (ng : Nat) : Sig := ⟨fun a => if a.val < ng then σ a else none, σ.sz⟩
theorem WRel.globs {σ : Sig} {A : AW} {w : World} (h : WRel (ctx P ng) σ A w) : WRel (ctx P ng) (σ.globs ng) ⟨.nil, ix ng⟩ w where
  live a o ha := by simp at ha
  size a c cs e fr hc hO := by
    have hc : (if a.val < ng then σ a else none) = some c := hc
    split at hc
    · exact h.size a c cs e fr hc hO
    · cases hc
  inj a a' o o' c ha := by simp at ha
  fresh a ha := by
    simp only [ix_val] at ha
    show (if a.val < ng then σ a else none) = none
    rw [if_neg (by omega)]
  range a c hc := by
    have hc : (if a.val < ng then σ a else none) = some c := hc
    split at hc
    · exact h.range a c hc
    · cases hc
  glob g hg := by
    show (if (ix g).val < ng then σ (ix g) else none) = some g
    have hg : g < ng := hg
    rw [ix_val, if_pos hg]; exact h.glob g hg
theorem FnRun.forget {f : FuncId} {args : List AV} {v : AV} {B : AW} (h : FnRun (ctx P ng) f args ⟨.nil, ix ng⟩ v B) (ha : ∀ u ∈ args, Plain u) (hv : Plain v) (A : AW) : FnRun (ctx P ng) f args A v A := by
  intro σ w args' hw hargs
  have key : ∀ (σ' : Sig) (w' : World), Go.Abs.Ext (ctx P ng) (σ.globs ng) ⟨.nil, ix ng⟩ w σ' B w' → Go.Abs.Ext (ctx P ng) σ A w σ A w' := by
    intro σ' w' hE
    have hk : ∀ c, c < w.heap.size → w'.heap[c]? = w.heap[c]? := fun c hc => hE.keeps.keep c hc (by rintro ⟨a, o, ho, _⟩; simp at ho)
    refine ⟨Sig.le_refl _, ⟨fun a o ho => ?_, fun a c cs e fr hc hO => ?_, hw.inj, hw.fresh, fun a c hc => Nat.lt_of_lt_of_le (hw.range a c hc) hE.keeps.size, hw.glob⟩,
      ⟨hE.keeps.size, fun c hc _ => hk c hc, fun _ h => .inl h, fun a c h h' => by simp [h] at h', fun _ _ => rfl, Nat.le_refl _, hE.keeps.os, hE.keeps.output, hE.keeps.tape⟩⟩
    · obtain ⟨c, O, hc, hO, hr⟩ := hw.live a o ho
      exact ⟨c, O, hc, by rw [hk c (hw.range a c hc)]; exact hO, hr⟩
    · rw [hk c (hw.range a c hc)] at hO
      exact hw.size a c cs e fr hc hO
  rcases h (σ.globs ng) w args' hw.globs (VsRel.plain ha hargs) with ⟨hfn, hC⟩ | ⟨v', σ', w', hr, hE, hr'⟩
  · refine .inl ⟨hfn, hC.mono ?_⟩
    rintro e w' ⟨v', σ', rfl, hE, hr⟩
    exact ⟨v', σ, rfl, key σ' w' hE, hv _ _ _ hr⟩
  · exact .inr ⟨v', σ, w', hr, key σ' w' hE, hv _ _ _ hr'⟩
end Go.Abs
end
section
namespace Go.Abs
variable {P : Program} {ng : Nat}
def sig0 (ng : Nat) (w : World) : Sig := ⟨fun a => if a.val < ng then some a.val else none, fun c => match w.heap[c]? with
  | some (.cells cs _ _) => cs.size
  | _ => 0⟩
theorem WRel.start {w : World} (h : ∀ g, g < ng → g < w.heap.size) : WRel (ctx P ng) (sig0 ng w) ⟨.nil, ix ng⟩ w where
  live a o ha := by simp at ha
  size a c cs e fr _ hO := by
    show (match w.heap[c]? with | some (.cells cs _ _) => cs.size | _ => 0) = cs.size
    rw [hO]
  inj a a' o o' c ha := by simp at ha
  fresh a ha := by
    simp only [ix_val] at ha
    show (if a.val < ng then some a.val else none) = none
    rw [if_neg (by omega)]
  range a c hc := by
    have hc : (if a.val < ng then some a.val else none) = some c := hc
    split at hc
    · cases hc; exact h _ (by assumption)
    · cases hc
  glob g hg := by
    show (if (ix g).val < ng then some (ix g).val else none) = some g
    have hg : g < ng := hg
    rw [ix_val, if_pos hg]
theorem WRel.know {X : Ctx} {σ : Sig} {A : AW} {w : World} (h : WRel X σ A w) {a : Ix} {c : Nat} {o : AObj} {O : Obj} (hc : σ a = some c) (hO : w.heap[c]? = some O) (hr : ORel X σ o O)
    (hinj : ∀ a' o', A.heap.get a' = some o' → σ a' = some c → a' = a) : WRel X σ ⟨T.set (some o) a A.heap, A.next⟩ w where
  live b q hb := by
    simp only [T.get_set] at hb
    by_cases e : b = a
    · subst e
      rw [if_pos rfl] at hb; cases hb
      exact ⟨c, O, hc, hO, hr⟩
    · rw [if_neg e] at hb; exact h.live b q hb
  size := h.size
  inj b b' q q' d hb hb' hd hd' := by
    simp only [T.get_set] at hb hb'
    by_cases e : b = a
    · by_cases e' : b' = a
      · rw [e, e']
      · rw [if_neg e'] at hb'
        subst e
        rw [hc] at hd; cases hd
        exact (hinj b' q' hb' hd').symm
    · rw [if_neg e] at hb
      by_cases e' : b' = a
      · subst e'
        rw [hc] at hd'; cases hd'
        exact hinj b q hb hd
      · rw [if_neg e'] at hb'; exact h.inj b b' q q' d hb hb' hd hd'
  fresh := h.fresh
  range := h.range
  glob := h.glob
theorem VsRel.ints {σ : Sig} (k : IntKind) : ∀ (l : List Int), VsRel σ (l.map fun z => .int k z) (l.map fun z => Value.int k z)
  | [] => .nil
  | z :: l => .cons (.int k z) (VsRel.ints k l)
theorem ORel.ints {X : Ctx} {σ : Sig} {k : IntKind} {l : List Int} {e : TypeId} {n : Nat} (hn : l.length = n) : ORel X σ (.cells (Go.Abs.setRow .nil 0 (l.map fun z => .int k z)) n e true) (.cells (l.map fun z => Value.int k z).toArray e (0, 0)) := by
  subst hn
  refine .cells (by simp) (fun x v hx => ?_) (TRel.ofList (VsRel.ints k l)) (fun _ => rfl)
  have := ofList_lt hx
  simpa using this
theorem ORel.ints_inv {X : Ctx} {σ : Sig} {k : IntKind} {l : List Int} {e : TypeId} {n : Nat} {O : Obj} (h : ORel X σ (.cells (Go.Abs.setRow .nil 0 (l.map fun z => .int k z)) n e true) O) (hn : l.length = n)
    (hs : ∀ cs e fr, O = .cells cs e fr → cs.size = n) : O = .cells (l.map fun z => Value.int k z).toArray e (0, 0) := by
  subst hn
  cases h with
  | cells hn hk ht hcl =>
    rename_i cs fr
    have hsz := hs _ _ _ rfl
    obtain rfl := hcl rfl
    congr 1
    apply Array.ext_getElem?
    intro j
    by_cases hj : j < l.length
    · have hg : (Go.Abs.setRow .nil 0 (l.map fun z => AV.int k z)).get (ix j) = some (.int k l[j]) := by
        rw [setRow_get]
        simp [hj]
      obtain ⟨v', h1, h2⟩ := ht _ _ hg
      simp only [ix_val] at h1
      rw [h1]
      cases h2
      simp [hj]
    · rw [Array.getElem?_eq_none (by omega), Array.getElem?_eq_none (by simp; omega)]
end Go.Abs
end
section
namespace Go
variable {P : Program} {ops : Array Oper} {Q : Exit → Act → World → Prop}
theorem ready_mem {listed : Array Bool} {i : Nat} (h : i ∈ Region.ready .any ops listed) : i < ops.size ∧ listed.getD i true = false ∧ ∃ o, ops[i]? = some o ∧ ∀ e ∈ o.after, Region.binds .any e = true → listed.getD e.on false = true := by
  unfold Region.ready at h
  rw [List.mem_filter] at h
  obtain ⟨h1, h2⟩ := h
  have hlt := List.mem_range.1 h1
  simp only [Bool.and_eq_true, Bool.not_eq_true', Array.getElem?_eq_getElem hlt, Option.map_some, Option.getD_some] at h2
  refine ⟨hlt, h2.1, ops[i], Array.getElem?_eq_getElem hlt, fun e he hb => ?_⟩
  have := (Array.all_eq_true'.1 h2.2) e he
  simpa [hb] using this
theorem ready_none {listed : Array Bool} (hsz : listed.size = ops.size) (hb : ∀ i o, ops[i]? = some o → ∀ e ∈ o.after, Region.binds .any e = true → e.on < i) (h : Region.ready .any ops listed = []) : ∀ i, i < ops.size → listed.getD i false = true := by
  intro i
  induction i using Nat.strongRecOn with
  | _ i ih =>
    intro hi
    refine Classical.byContradiction fun hn => ?_
    have hil : i < listed.size := by omega
    have hm : i ∈ Region.ready .any ops listed := by
      unfold Region.ready
      rw [List.mem_filter]
      refine ⟨List.mem_range.2 hi, ?_⟩
      have h1 : listed.getD i true = false := by
        simp only [Array.getD_eq_getD_getElem?, Array.getElem?_eq_getElem hil, Option.getD_some] at hn ⊢
        simpa using hn
      simp only [h1, Array.getElem?_eq_getElem hi, Option.map_some, Option.getD_some, Bool.not_false, Bool.true_and]
      rw [Array.all_eq_true']
      intro e he
      cases hbd : Region.binds .any e with
      | false => simp
      | true =>
        have hlt := hb i _ (Array.getElem?_eq_getElem hi) e he hbd
        simp [ih e.on hlt (by omega)]
    rw [h] at hm; cases hm
theorem wpAny_inv (I : (Nat → Bool) → Act → World → Prop) (hb : ∀ i o, ops[i]? = some o → ∀ e ∈ o.after, Region.binds .any e = true → e.on < i)
    (hstep : ∀ (s : Nat → Bool) (a : Act) (w : World) (i : Nat) (o : Oper) (K : Act → World → Prop), I s a w → ops[i]? = some o → s i = false → (∀ e ∈ o.after, Region.binds .any e = true → s e.on = true) → (∀ a' w', I (fun j => s j || j == i) a' w' → K a' w') → wpOp P ops Q i K a w)
    (hend : ∀ (s : Nat → Bool) (a : Act) (w : World), I s a w → (∀ i, i < ops.size → s i = true) → Q .normal a w) :
    ∀ (fuel : Nat) (listed : Array Bool) (a : Act) (w : World), listed.size = ops.size → listed.toList.countP (!·) ≤ fuel → I (fun j => listed.getD j false) a w → wpAny P .any ops Q fuel listed a w := by
  intro fuel
  induction fuel with
  | zero =>
    intro listed a w hsz hcnt h
    have hall : ∀ i, i < listed.size → listed.getD i true = true := fun i hi => by
      have h0 := List.countP_eq_zero.1 (Nat.le_zero.1 hcnt) listed[i] (by simp)
      simp only [Array.getD_eq_getD_getElem?, Array.getElem?_eq_getElem hi, Option.getD_some]
      simpa using h0
    have hnil : Region.ready .any ops listed = [] := by
      refine List.eq_nil_iff_forall_not_mem.2 fun i hi => ?_
      obtain ⟨h1, h2, _⟩ := ready_mem hi
      rw [hall i (by omega)] at h2; cases h2
    exact ⟨hnil, hend _ a w h fun i hi => ready_none hsz hb hnil i hi⟩
  | succ fuel ih =>
    intro listed a w hsz hcnt h
    refine ⟨fun hnil => hend _ a w h fun i hi => ready_none hsz hb hnil i hi, fun i hi => ?_⟩
    obtain ⟨hlt, hno, o, ho, hdep⟩ := ready_mem hi
    have hlt' : i < listed.size := by omega
    have hno' : listed[i] = false := by
      simpa only [Array.getD_eq_getD_getElem?, Array.getElem?_eq_getElem hlt', Option.getD_some] using hno
    refine hstep _ a w i o _ h ho (by simp only [Array.getD_eq_getD_getElem?, Array.getElem?_eq_getElem hlt', Option.getD_some, hno']) hdep fun a' w' h' => ?_
    refine ih _ a' w' (by simpa using hsz) ?_ ?_
    · rw [Array.toList_setIfInBounds, List.countP_set (by simpa using hlt')]
      simp only [Array.getElem_toList, hno', Bool.not_false, if_true, Bool.not_true, Bool.false_eq_true, if_false]
      omega
    · have e : (fun j => (listed.setIfInBounds i true).getD j false) = fun j => listed.getD j false || j == i := by
        funext j
        simp only [Array.getD_eq_getD_getElem?, Array.getElem?_setIfInBounds]
        by_cases hj : i = j
        · subst hj; simp [hlt']
        · have : (j == i) = false := by simpa using fun h => hj h.symm
          simp [hj, this]
      rw [e]; exact h'
theorem wp_region_inv {id : Nat} {a : Act} {w : World} (hm : P.follows .mixedOrders = true) (I : (Nat → Bool) → Act → World → Prop) (h0 : I (fun _ => false) a { w with drawn := w.drawn + 1 }) (hb : ∀ i o, ops[i]? = some o → ∀ e ∈ o.after, Region.binds .any e = true → e.on < i)
    (hstep : ∀ (s : Nat → Bool) (a : Act) (w : World) (i : Nat) (o : Oper) (K : Act → World → Prop), I s a w → ops[i]? = some o → s i = false → (∀ e ∈ o.after, Region.binds .any e = true → s e.on = true) → (∀ a' w', I (fun j => s j || j == i) a' w' → K a' w') → wpOp P ops Q i K a w)
    (hend : ∀ (s : Nat → Bool) (a : Act) (w : World), I s a w → (∀ i, i < ops.size → s i = true) → Q .normal a w) : (Code.region id ops true).wp P Q a w := by
  refine wp_region_any hm (wpAny_inv I hb hstep hend _ _ _ _ (by simp) ?_ ?_)
  · refine Nat.le_trans List.countP_le_length ?_
    simp
  · have e : (fun j => (Array.replicate ops.size false).getD j false) = fun _ => false := by
      funext j
      simp only [Array.getD_eq_getD_getElem?, Array.getElem?_replicate]
      split <;> simp
    rw [e]; exact h0
end Go
end
section
namespace Go.Abs
def certF : Nat → List Nat → Nat → List (Nat × List Nat) → Bool
  | _, [], _, C => C.isEmpty
  | 0, _ :: _, _, _ => false
  | n + 1, f :: todo, mask, C =>
    match mask.testBit f with
    | true => certF n todo mask C
    | false => match C with
      | [] => false
      | (g, l) :: C => match g == f with
        | true => certF n (l ++ todo) (mask ||| (1 <<< f)) C
        | false => false
theorem certF_sound {P : Program} : ∀ (n m : Nat) (todo : List Nat) (mask : Nat) (seen : List Nat) (C : List (Nat × List Nat)), certF n todo mask C = true → n ≤ m →
    (∀ x, mask.testBit x = seen.contains x) → (∀ x ∈ C, (P.funcs[x.1]?).elim [] P.leadsTo = x.2) → P.closureVia m todo seen = seen.reverse ++ C.map Prod.fst
  | n, m, [], mask, seen, C, h, hm, hs, hC => by
    have : C = [] := by cases n <;> simpa [certF] using h
    subst this
    cases m <;> simp [Program.closureVia]
  | 0, m, _ :: _, mask, seen, C, h, hm, hs, hC => by simp [certF] at h
  | n + 1, m, f :: todo, mask, seen, C, h, hm, hs, hC => by
    obtain ⟨m, rfl⟩ : ∃ k, m = k + 1 := ⟨m - 1, by omega⟩
    unfold certF at h
    unfold Program.closureVia
    split at h
    · rename_i e
      rw [if_pos (by rw [← hs, e])]
      exact certF_sound n m todo mask seen C h (by omega) hs hC
    · rename_i e
      rw [if_neg (by rw [← hs, e]; simp)]
      split at h
      · cases h
      · rename_i g l C
        split at h
        · rename_i eg
          obtain rfl : g = f := by simpa using eg
          have hl : (P.funcs[g]?).elim [] P.leadsTo = l := hC (g, l) (List.mem_cons_self ..)
          rw [hl]
          rw [certF_sound n m (l ++ todo) (mask ||| (1 <<< g)) (g :: seen) C h (by omega) (fun x => ?_) (fun x hx => hC x (List.mem_cons_of_mem _ hx))]
          · simp
          · rw [Nat.testBit_or, hs, List.contains_cons, Nat.one_shiftLeft, Nat.testBit_two_pow]
            by_cases e : x = g
            · subst e; simp
            · have e1 : (x == g) = false := by simpa using e
              have e2 : decide (g = x) = false := by simpa using fun h => e (Eq.symm h)
              rw [e1, e2, Bool.or_false, Bool.false_or]
        · cases h
theorem closure_of_cert {P : Program} {f n : Nat} {C : List (Nat × List Nat)} (h : certF n [f] 0 C = true) (hn : n ≤ 1 + (P.funcs.toList.map fun g => (P.leadsTo g).length + 1).sum)
    (hC : ∀ x ∈ C, (P.funcs[x.1]?).elim [] P.leadsTo = x.2) : P.closure f = C.map Prod.fst := by
  unfold Program.closure
  rw [certF_sound n _ [f] 0 [] C h hn (fun x => by simp) hC]
  rfl
theorem all_cat {p : Nat → Bool} {a n m : Nat} (h1 : (List.range' a n).all p = true) (h2 : (List.range' (a + n) m).all p = true) : (List.range' a (n + m)).all p = true := by
  rw [List.all_eq_true] at h1 h2 ⊢
  intro i hi
  simp only [List.mem_range'_1] at h1 h2 hi
  by_cases e : i < a + n
  · exact h1 i ⟨by omega, by omega⟩
  · exact h2 i ⟨by omega, by omega⟩
theorem all_range {p : Nat → Bool} {n : Nat} (h : (List.range' 0 n).all p = true) : (List.range n).all p = true := by
  rw [List.range_eq_range']; exact h
theorem filter_range {α : Type} {p : α → Bool} : ∀ (l : List α) (k : Nat), ((l.zipIdx k).filter fun x => p x.1).map (·.2) = (List.range' k l.length).filter fun i => (l[i - k]?).any p
  | [], k => by simp
  | a :: l, k => by
    have ih := filter_range (p := p) l (k + 1)
    rw [List.zipIdx_cons, List.length_cons, List.range'_succ, List.filter_cons, List.filter_cons]
    have e : ∀ i ∈ List.range' (k + 1) l.length, ((a :: l)[i - k]?).any p = (l[i - (k + 1)]?).any p := by
      intro i hi
      rw [List.mem_range'_1] at hi
      obtain ⟨j, hj⟩ : ∃ j, i - k = j + 1 := ⟨i - k - 1, by omega⟩
      rw [hj, List.getElem?_cons_succ, show i - (k + 1) = j by omega]
    rw [List.filter_congr e, ← ih]
    simp only [Nat.sub_self, List.getElem?_cons_zero, Option.any_some]
    split <;> simp_all
theorem funcNamed_of {P : Program} {name : String} {f : Nat} (h : (P.funcs.toList.zipIdx.filter fun x => x.1.name == name).map (·.2) = [f]) : P.funcNamed name = some f := by
  have h := (filter_range (p := fun g : Func => g.name == name) P.funcs.toList 0).symm.trans h
  unfold Program.funcNamed
  rw [List.range_eq_range']
  simp only [Nat.sub_zero, Array.length_toList] at h
  simp only [← Array.getElem?_toList]
  rw [h]
def wordsOf (P : Program) : List String := P.funcs.toList.filterMap fun fn => match fn.body.isNone with | true => some fn.name | false => none
theorem worded_of {P : Program} {W : List String} (h : wordsOf P = W) (w : String) : P.worded w = W.any (· == w) := by
  subst h
  unfold Program.worded wordsOf
  rw [← Array.any_toList]
  generalize P.funcs.toList = l
  induction l with
  | nil => rfl
  | cons a l ih =>
    rw [List.any_cons, ih, List.filterMap_cons]
    cases a.body.isNone <;> simp
theorem stops_none {P : Program} (h : (P.funcs.toList.all fun fn => (Stop.rowOf fn).isNone) = true) : P.stops = [] ∧ P.stopKnobs = [] ∧ P.stopsHeard = true := by
  have h' : ∀ fn ∈ P.funcs.toList, Stop.rowOf fn = none := fun fn hfn => by simpa using List.all_eq_true.1 h fn hfn
  refine ⟨?_, ?_, ?_⟩
  · unfold Program.stops
    rw [List.filterMap_eq_nil_iff.2 fun fn hfn => by rw [h' fn hfn]; rfl]
    rfl
  · unfold Program.stopKnobs
    rw [List.filterMap_eq_nil_iff.2 h']
    rfl
  · unfold Program.stopsHeard
    rw [← Array.all_toList, List.all_eq_true]
    intro fn hfn
    rw [h' fn hfn]
    rfl
theorem laysLater_of {P : Program} (h : (P.funcs.toList.any fun fn => fn.body.isNone && (fn.name == "runtime.SetFinalizer" || fn.name == "runtime.AddCleanup" || fn.origin == "runtime.AddCleanup")) = false) : P.laysLater = false := by
  unfold Program.laysLater
  rw [← Array.any_toList]
  exact h
theorem laidOut_of {P : Program} {n : Nat} (hn : P.types.size = n) (h1 : (List.range' 0 n).all (rowFine P) = true) (h2 : P.globals.toList.all (fun g => decide (g.type < n)) = true)
    (h3 : (P.funcs.toList.all fun f => f.params.toList.all fun t => decide (t < n)) = true) : laidOutB P = true := by
  unfold laidOutB
  rw [hn, all_range h1, ← Array.all_toList, h2, ← Array.all_toList, Bool.true_and, Bool.true_and]
  rw [← h3]
  congr 1
  funext f
  rw [Array.all_toList]
theorem goes_none {P : Program} {f : FuncId} (h : P.funcs.toList.all (fun g => !g.goes) = true) : P.goes f = false := by
  have h' : ∀ g ∈ P.funcs.toList, g.goes = false := fun g hg => by simpa using List.all_eq_true.1 h g hg
  unfold Program.goes
  have e1 : P.funcs.any Func.goes = false := by
    rw [← Array.any_toList, List.any_eq_false]
    intro g hg
    rw [h' g hg]; simp
  have e2 : ((P.closure f).any fun g => (P.funcs[g]?).any Func.goes) = false := by
    rw [List.any_eq_false]
    intro g _
    cases hg : P.funcs[g]? with
    | none => simp
    | some fn => simp only [Option.any_some, h' fn (by rw [← Array.getElem?_toList] at hg; exact List.mem_of_getElem? hg)]; simp
  rw [e1, e2]
  simp
theorem sum_piece {α : Type} {g : α → Nat} {l : List α} {a n s : Nat} (b : Nat) (e : a + n = b) (h : (((l.drop a).take n).map g).sum = s) : ((l.drop a).map g).sum = s + ((l.drop b).map g).sum := by
  rw [← h, ← e]
  conv => lhs; rw [← List.take_append_drop n (l.drop a)]
  rw [List.map_append, List.sum_append, List.drop_drop]
end Go.Abs
end
section
namespace Go.Abs
noncomputable def doorAt (P : Program) (g n fuel M : Nat) (laid : List (String × DataW Unit)) (os : Os) (tape : Tape) : Option (List (String × DataW Unit) × List (DataW (List UInt8))) :=
  match runN P n (Machine.entering P (World.unlaid P os) tape g ⟨#[], #[], []⟩) with
  | .ended (.done _) w =>
    (DataW.laidRun P w.memory fuel ((laid.filter fun x => x.2.handleName?.isNone).map (·.1))).bind fun x =>
      if nodupBits M x.2 0 && laidRowsB P w.memory x.2 && (laid.filter fun x => x.2.handleName?.isSome && x.2.funcsIn?.isNone).all (handleAtB P w.memory)
      then (funcsRun P w.memory fuel ((funcsListed laid).map (·.1))).map fun y => (x.1, y) else none
  | _ => none
theorem laidByTextLater_at {P : Program} {laid : List (String × DataW Unit)} {kinds : List LaidKind} {tests : Bool} (g n fuel M : Nat)
    (hw : P.worded (varsWordLater tests) = true) (hw' : P.worded (varsWordLater !tests) = false) (hroot : P.worded rootWordLater = true) (hk : laid.map (fun x => P.kindOfLater x.1) = kinds.map some)
    (hg : P.funcNamed "gosem.cut.vars" = some g)
    (hn : varsNamedLaterB P g laid = true)
    (hrun : ∀ os tape, doorAt P g n fuel M laid os tape = some (laid.filter fun x => x.2.handleName?.isNone, (funcsListed laid).map (·.2.funcsOut))) :
    P.laidByTextLater laid kinds tests := by
  unfold varsNamedLaterB at hn
  cases hc : (P.funcs[g]?).bind (·.body) with
  | none => simp [hc] at hn
  | some code =>
   cases hs : code.laysInOrder [] with
   | none => simp [hc, hs] at hn
   | some stored =>
    simp only [hc, hs, Bool.and_eq_true] at hn
    refine ⟨⟨hw, hw', hroot, hk⟩, g, code, stored, hg, hc, ⟨hs, hn.1.1, hn.1.2⟩, hn.2, fun os tape _ => ?_⟩
    have d := hrun os tape
    unfold doorAt at d
    split at d
    · rename_i v w hr
      refine ⟨n, v, w, hr, ?_⟩
      simp only [Option.bind_eq_some_iff] at d
      obtain ⟨x, hx, d⟩ := d
      split at d
      · rename_i hb
        simp only [Bool.and_eq_true] at hb
        simp only [Option.map_eq_some_iff, Prod.mk.injEq] at d
        obtain ⟨y, hy, e1, e2⟩ := d
        refine laidMetH_of_parts3 (fuel := fuel) (laidMet_of_run (ps := x.2) fuel (by rw [hx, ← e1]) (decide_eq_true (nodupBits_sound hb.1.1).1) hb.1.2) hb.2 (by rw [hy, e2])
      · cases d
    · cases d
end Go.Abs
end
section
namespace Go.Abs
variable {H : Type} {enc : TypeId × Value → H}
theorem returnsInHanded_laid {a : Assume} {C : Checked} {os : Os} {f : FuncId} {fn : Func} {s : ChangeSpec} {conds : List PathCond} {apart fresh handsOn again : Bool} {X : World → Array Value → Prop}
    (hX : ∀ (w w' : World) (args : Array Value), w.heap = w'.heap → X w args → X w' args)
    (own : ownKnob C.prog.godebug = none) (started : os.Started) (noInit : C.prog.inits.idxOf? f = none) (hfn : C.prog.funcs[f]? = some fn)
    (witness : ∃ (w : World) (tape : Tape) (i : Input), w.os = os ∧ (w.forCall tape i).Shaped C.prog ∧ i.vars = [] ∧ Input.okWide C.prog (w.forCall tape i) .any w.heap.size f i ∧
      ((s.pre enc C.prog fn conds apart (w.forCall tape i).memory i.args ∧ X (w.forCall tape i).memory i.args) ∧ sizedMet enc C.prog fn (OpenSpec.ofChange s) apart (w.forCall tape i).memory i.args) ∧ a.holds C.prog (lone (Frame.enter C.prog f i.args .normal) [] (w.forCall tape i)))
    (contract : ∀ (W : World) (base : Nat) (args : Array Value) (ds gs : List (DataW H)) (before : List MemPlace),
      (∀ (j : Nat) t v, fn.params[j]? = some t → args[j]? = some v → Value.okWide C.prog W .any base t v) →
      DataW.Whole enc C.prog fn.params.toList s.vars apart W args.toList ds gs before →
      (DataW.weightsEach C.prog (fn.params.toList ++ s.plain.varTypes C.prog) (ds ++ gs)).all (· ≤ reachBytes) = true → X W args → W.ShapedOpen C.prog →
      Calls C.prog f args W fun e W' => ∃ v, e = .returned v ∧ s.post enc C.prog fn apart fresh handsOn again W args v W') :
    ReturnsInHanded a C os f .any (fun w args => (s.pre enc C.prog fn conds apart w args ∧ X w args) ∧ sizedMet enc C.prog fn (OpenSpec.ofChange s) apart w args) (s.post enc C.prog fn apart fresh handsOn again) := by
  refine returnsInHanded_of_calls own started noInit witness ?_
  intro w tape i _ hsh _ hok hpre _
  obtain ⟨_, _, _, fn', hfn', _, _, _, _, hval⟩ := hok
  have e : fn' = fn := Option.some.inj (hfn'.symm.trans hfn)
  subst e
  obtain ⟨⟨⟨ds, gs, before, hw, _⟩, hx⟩, hz⟩ := hpre
  have hw' := DataW.Whole.of_heap (w' := w.forCall tape i) (by rfl) hw
  refine (contract (w.forCall tape i) w.heap.size i.args ds gs before hval hw' (hz.weights hw) (hX _ _ _ (by rfl) hx) hsh).mono fun e W' ⟨v, he, hp⟩ => ?_
  subst he
  exact ChangeSpec.post_blind hp
end Go.Abs
end
