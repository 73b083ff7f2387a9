/- The latter part of the walk of SpanTells: from the second of its tests on. -/
import Derived.Test.YtjhfikbjfipmkaaDoorDoor
import Derived.Test.YtjhfikbjfipmkaaDoorBlk
import Derived.Test.YtjhfikbjfipmkaaDoorSpanS
import Derived.Test.YtjhfikbjfipmkaaDoorRSpanT
import Derived.Test.YtjhfikbjfipmkaaDoorRMeet
import Derived.Test.YtjhfikbjfipmkaaDoorUpto
import Derived.Deep.DeepCutAuto
namespace Go.Proofs.YtjhfikbjfipmkaaDoor.lSpanTells
open Go.ChangeShapes Go.WideShapes Go.ChangeAt Go.RowKit
open Go.ChangeMaps (open_string)
set_option linter.unusedVariables false
set_option linter.unusedSimpArgs false
theorem err_same (c : Int) (w v : World) (hg : HandleAt w) (hb : Below w.heap.size w v) : Calls Tryd.prog 13 #[errV c, .int .i64 c] v fun e w' => e = .returned (.bool true) ∧ Below v.heap.size v w' := by
  have h := Error_any c c v (hg.below hb)
  have e : (c == c) = true := by simp
  rw [e] at h
  exact h
/-- what stands behind the first k parts. -/
def tlo : Nat → Option Code → Option Code
  | 0, c => c
  | k + 1, some (.seq _ b) => tlo k (some b)
  | _, _ => none
theorem wp_tlo {P : Program} {Q : Exit → Act → World → Prop} {k : Nat} {o : Option Code} {l c : Code} {x : Act} {v : World} (h : tlo k o = some l) (hc : tlo k o = some c) (hw : Code.wp P l Q x v) : Code.wp P c Q x v := by
  rw [h] at hc
  obtain rfl := Option.some.inj hc
  exact hw
theorem use_k {P : Program} {c : Code} {Q : Exit → Act → World → Prop} {K : Act → World → Prop} (h : ∀ x v, Code.wp P c Q x v → K x v) {x : Act} {v : World} (hw : Code.wp P c Q x v) : K x v := h x v hw
set_option maxRecDepth 100000 in
set_option maxHeartbeats 16000000 in
theorem latter {a b c d : Int} {a3 : ByteArray} {w w6 w14 : World} {gt : Nat} {bf : Bool} {e2 W1 W2 H1 H2 M1 M2 f2 S1 S2 e3 P1 P2 e4 : Int} {u2 u9 u10 u13 u14 u15 u17 u19 u21 u23 u24 u38 u39 u40 u41 u42 u43 u44 u45 u46 u47 u48 u49 u50 u51 u52 u53 u54 u55 u56 u57 u58 u59 u60 u61 u62 u63 u64 u65 u66 u67 u68 u69 u70 u71 u72 u73 u74 u75 u76 u77 u78 u79 u80 u81 u82 u83 u84 u85 u86 u87 u88 u89 u90 u91 u92 u93 u94 u95 u96 u97 u98 u99 u100 u101 u102 u103 u104 u105 u106 u107 u108 u109 u110 u111 u112 u113 u114 u115 u116 u117 u118 u119 u120 u121 u122 u123 u124 u125 u126 u127 u128 u129 u130 u131 u132 u133 u134 u135 u136 u137 u138 u139 u140 u141 u142 u143 u144 u145 u146 u147 u148 u149 u150 u151 u152 u153 u154 u155 u156 u157 u158 u159 u160 u161 u162 u163 u164 u165 u166 u167 u168 u169 u170 u171 u172 u173 u174 u175 u176 u177 u178 u179 u180 u181 u182 u183 u184 u185 u186 u187 u188 u189 u190 u191 u192 u193 u194 u195 u196 u197 u198 u199 u200 u201 u202 u203 u204 u205 u206 u207 u208 u209 u210 u211 u212 u213 u214 u215 u216 u217 u218 u219 u220 u221 u222 u223 u224 u225 u226 u227 u228 u229 u230 u231 u232 u233 u234 u235 u236 u237 u238 u239 u240 u241 u242 u243 u244 u245 u246 u247 u248 u249 u250 u251 u252 u253 u254 u255 u256 u257 u258 u259 u260 u261 u262 u263 u264 u265 u266 u267 u268 u269 u270 u271 u272 u273 u274 u275 u276 u277 u278 u279 u280 u281 u282 u283 u284 u285 u286 u287 u288 u289 u290 u291 u292 u293 u294 u295 u296 u297 u298 u299 u300 u301 u302 u303 u304 u305 u306 : Value} (HS : SpanW w) (hg : HandleAt w)
    (CBe : (∀ w, Calls Tryd.prog 16 #[.agg #[.int .i64 a, .int .i64 b], .agg #[.int .i64 c, .int .i64 d]] w fun e w' => e = .returned (.tuple #[.bool bf, errV e2]) ∧ Below w.heap.size w w'))
    (HE2v : ((e2 = 0 ∧ bf = decide (b < c)) ∨ (e2 = 1 ∧ bf = false)))
    (CHu : (∀ w, Calls Tryd.prog 19 #[.agg #[.int .i64 a, .int .i64 b], .agg #[.int .i64 c, .int .i64 d]] w fun e w' => e = .returned (.tuple #[.agg #[.int .i64 H1, .int .i64 H2], errV e2]) ∧ Below w.heap.size w w'))
    (HHu : ((e2 = 0 ∧ (∀ w, Calls Tryd.prog 17 #[.int .i64 a, .int .i64 c] w fun e w' => e = .returned (.int .i64 H1) ∧ w = w') ∧ (∀ w, Calls Tryd.prog 18 #[.int .i64 b, .int .i64 d] w fun e w' => e = .returned (.int .i64 H2) ∧ w = w')) ∨ (e2 = 1 ∧ H1 = 0 ∧ H2 = 0)))
    (CMe : (∀ w, Calls Tryd.prog 5 #[.agg #[.int .i64 a, .int .i64 b], .agg #[.int .i64 c, .int .i64 d]] w fun e w' => e = .returned (.tuple #[.agg #[.int .i64 M1, .int .i64 M2], errV f2]) ∧ Below w.heap.size w w'))
    (HMe : ((e2 = 1 ∧ M1 = 0 ∧ M2 = 0 ∧ f2 = 1) ∨ (e2 = 0 ∧ ∃ (m1 m2 : Int) (com : Bool), (∀ w, Calls Tryd.prog 20 #[.agg #[.int .i64 a, .int .i64 b], .agg #[.int .i64 c, .int .i64 d]] w fun e w' => e = .returned (.tuple #[.agg #[.int .i64 m1, .int .i64 m2], .bool com]) ∧ Below w.heap.size w w') ∧ (com = false → f2 = 5 ∧ M1 = 0 ∧ M2 = 0) ∧ (com = true → f2 = 0 ∧ M1 = m1 ∧ M2 = m2))))
    (CAd : (∀ w, Calls Tryd.prog 10 #[.agg #[.int .i64 a, .int .i64 b], .agg #[.int .i64 c, .int .i64 d]] w fun e w' => e = .returned (.tuple #[.agg #[.int .i64 S1, .int .i64 S2], errV e3]) ∧ Below w.heap.size w w'))
    (HAd : ((e2 = 1 ∧ S1 = 0 ∧ S2 = 0 ∧ e3 = 1) ∨ (e2 = 0 ∧ IntKind.i64.wrap (a + c) = a + c ∧ IntKind.i64.wrap (b + d) = b + d ∧ ∃ (D1 D2 : Int), a + c = D1 ∧ b + d = D2 ∧ ∃ ok : Bool, (∀ w, Calls Tryd.prog 12 #[.agg #[.int .i64 D1, .int .i64 D2]] w fun e w' => e = .returned (.bool ok) ∧ Below w.heap.size w w') ∧ (ok = false → e3 = 1 ∧ S1 = 0 ∧ S2 = 0) ∧ (ok = true → e3 = 0 ∧ S1 = D1 ∧ S2 = D2))))
    (CRe : (∀ w, Calls Tryd.prog 21 #[.string a3] w fun e w' => e = .returned (.tuple #[.agg #[.int .i64 P1, .int .i64 P2], .int .i64 e4]) ∧ Below w.heap.size w w'))
    (CPa : (∀ w, SpanW w → Calls Tryd.prog 6 #[.string a3] w fun e w' => e = .returned (.tuple #[.agg #[.int .i64 P1, .int .i64 P2], errV e4]) ∧ Below w.heap.size w w'))
    (ogt : w.heap.size + 1 < gt) (agx : w.heap.size ≤ w6.heap.size) (oxa : w.heap.size < w6.heap.size) (oxb : w.heap.size + 1 < w6.heap.size)
    (ba14 : Blk w14 (w.heap.size) 23 #[.int .i64 a, .int .i64 b]) (bb14 : Blk w14 (w.heap.size + 1) 23 #[.int .i64 c, .int .i64 d]) (bx14 : Blk w14 (w6.heap.size) 23 #[.int .i64 W1, .int .i64 W2]) (HB14 : Below w.heap.size w w14)
    {code : Code} (hcode : tlo 21 Tryd.f4.body = some code) :
    Code.wp Tryd.prog code (bodyPost Tryd.prog Tryd.f4 fun e w' => e = .returned (.bool true) ∧ Below w.heap.size w w') { tmps := #[.agg #[.int .i64 a, .int .i64 b], .agg #[.int .i64 c, .int .i64 d], u2, .string a3, .pointer (some ⟨w.heap.size, 0, none⟩), .pointer (some ⟨w.heap.size + 1, 0, none⟩), undef, undef, .bool false, u9, u10, .int .i64 e2, .bool true, u13, u14, u15, .pointer (some ⟨w6.heap.size, 0, none⟩), u17, .bool true, u19, .bool true, u21, .bool true, u23, u24, .bool true, undef, undef, undef, undef, undef, undef, undef, undef, undef, undef, undef, undef, u38, u39, u40, u41, u42, u43, u44, u45, u46, u47, u48, u49, u50, u51, u52, u53, u54, u55, u56, u57, u58, u59, u60, u61, u62, u63, u64, u65, u66, u67, u68, u69, u70, u71, u72, u73, u74, u75, u76, u77, u78, u79, u80, u81, u82, u83, u84, u85, u86, u87, u88, u89, u90, u91, u92, u93, u94, u95, u96, u97, u98, u99, u100, u101, u102, u103, u104, u105, u106, u107, u108, u109, u110, u111, u112, u113, u114, u115, u116, u117, u118, u119, u120, u121, u122, u123, u124, u125, u126, u127, u128, u129, u130, u131, u132, u133, u134, u135, u136, u137, u138, u139, u140, u141, u142, u143, u144, u145, u146, u147, u148, u149, u150, u151, u152, u153, u154, u155, u156, u157, u158, u159, u160, u161, u162, u163, u164, u165, u166, u167, u168, u169, u170, u171, u172, u173, u174, u175, u176, u177, u178, u179, u180, u181, u182, u183, u184, u185, u186, u187, u188, u189, u190, u191, u192, u193, u194, u195, u196, u197, u198, u199, u200, u201, u202, u203, u204, u205, u206, u207, u208, u209, u210, u211, u212, u213, u214, u215, u216, u217, u218, u219, u220, u221, u222, u223, u224, u225, u226, u227, u228, u229, u230, u231, u232, u233, u234, u235, u236, u237, u238, u239, u240, u241, u242, u243, u244, u245, u246, u247, u248, u249, u250, u251, u252, u253, u254, u255, u256, u257, u258, u259, u260, u261, u262, u263, u264, u265, u266, u267, u268, u269, u270, u271, u272, u273, u274, u275, u276, u277, u278, u279, u280, u281, u282, u283, u284, u285, u286, u287, u288, u289, u290, u291, u292, u293, u294, u295, u296, u297, u298, u299, u300, u301, u302, u303, u304, u305, u306], defers := [] } w14 := by
  have HW := Lib.hid HS
  have CE := Lib.hid (fun (c : Int) v hb => err_same c w v hg hb)
  replace CBe := Lib.hid CBe
  replace HE2v := Lib.hid HE2v
  replace CHu := Lib.hid CHu
  replace HHu := Lib.hid HHu
  replace CMe := Lib.hid CMe
  replace HMe := Lib.hid HMe
  replace CAd := Lib.hid CAd
  replace HAd := Lib.hid HAd
  replace CRe := Lib.hid CRe
  replace CPa := Lib.hid CPa
  have ca14_0 : w14.cell? ⟨w.heap.size, 0, none⟩ = some (.int .i64 a) := ba14.cell 0
  have fa14_0 : w14.frozen? ⟨w.heap.size, 0, none⟩ = false := ba14.fz 0
  have ca14_1 : w14.cell? ⟨w.heap.size, 1, none⟩ = some (.int .i64 b) := ba14.cell 1
  have fa14_1 : w14.frozen? ⟨w.heap.size, 1, none⟩ = false := ba14.fz 1
  have la14 : w.heap.size < w14.heap.size := ba14.lt
  have cb14_0 : w14.cell? ⟨w.heap.size + 1, 0, none⟩ = some (.int .i64 c) := bb14.cell 0
  have fb14_0 : w14.frozen? ⟨w.heap.size + 1, 0, none⟩ = false := bb14.fz 0
  have cb14_1 : w14.cell? ⟨w.heap.size + 1, 1, none⟩ = some (.int .i64 d) := bb14.cell 1
  have fb14_1 : w14.frozen? ⟨w.heap.size + 1, 1, none⟩ = false := bb14.fz 1
  have lb14 : w.heap.size + 1 < w14.heap.size := bb14.lt
  have cx14_0 : w14.cell? ⟨w6.heap.size, 0, none⟩ = some (.int .i64 W1) := bx14.cell 0
  have fx14_0 : w14.frozen? ⟨w6.heap.size, 0, none⟩ = false := bx14.fz 0
  have cx14_1 : w14.cell? ⟨w6.heap.size, 1, none⟩ = some (.int .i64 W2) := bx14.cell 1
  have fx14_1 : w14.frozen? ⟨w6.heap.size, 1, none⟩ = false := bx14.fz 1
  have lx14 : w6.heap.size < w14.heap.size := bx14.lt
  have HZ14 := HB14.size
  refine wp_tlo (l := _) rfl hcode ?_
  clear hcode HS hg
  go_wp2_with fail
  refine (CBe.out _).mono ?_
  rintro e w15 ⟨rfl, hb15⟩
  have hz15 := hb15.size
  (try simp at hz15)
  have ba15 : Blk w15 (w.heap.size) 23 #[.int .i64 a, .int .i64 b] := (by refine BlkG.start ?_; (repeat (first | ((with_reducible apply BlkG.done); (with_reducible assumption); exact rfl) | (with_reducible exact BlkG.newAt (by first | (with_reducible rfl) | omega | (simp; done) | (simp; omega)) rfl) | (with_reducible refine BlkG.drew ?_) | (with_reducible refine BlkG.drewN ?_) | (with_reducible refine BlkG.set ?_) | (with_reducible refine BlkG.far (by first | omega | (simp; done) | (simp; omega)) ?_) | (with_reducible refine BlkG.alloc ?_) | (with_reducible refine BlkG.bel (by with_reducible assumption) (by first | omega | (simp; done) | (simp; omega)) ?_))))
  have ca15_0 : w15.cell? ⟨w.heap.size, 0, none⟩ = some (.int .i64 a) := ba15.cell 0
  have fa15_0 : w15.frozen? ⟨w.heap.size, 0, none⟩ = false := ba15.fz 0
  have ca15_1 : w15.cell? ⟨w.heap.size, 1, none⟩ = some (.int .i64 b) := ba15.cell 1
  have fa15_1 : w15.frozen? ⟨w.heap.size, 1, none⟩ = false := ba15.fz 1
  have la15 : w.heap.size < w15.heap.size := ba15.lt
  have bb15 : Blk w15 (w.heap.size + 1) 23 #[.int .i64 c, .int .i64 d] := (by refine BlkG.start ?_; (repeat (first | ((with_reducible apply BlkG.done); (with_reducible assumption); exact rfl) | (with_reducible exact BlkG.newAt (by first | (with_reducible rfl) | omega | (simp; done) | (simp; omega)) rfl) | (with_reducible refine BlkG.drew ?_) | (with_reducible refine BlkG.drewN ?_) | (with_reducible refine BlkG.set ?_) | (with_reducible refine BlkG.far (by first | omega | (simp; done) | (simp; omega)) ?_) | (with_reducible refine BlkG.alloc ?_) | (with_reducible refine BlkG.bel (by with_reducible assumption) (by first | omega | (simp; done) | (simp; omega)) ?_))))
  have cb15_0 : w15.cell? ⟨w.heap.size + 1, 0, none⟩ = some (.int .i64 c) := bb15.cell 0
  have fb15_0 : w15.frozen? ⟨w.heap.size + 1, 0, none⟩ = false := bb15.fz 0
  have cb15_1 : w15.cell? ⟨w.heap.size + 1, 1, none⟩ = some (.int .i64 d) := bb15.cell 1
  have fb15_1 : w15.frozen? ⟨w.heap.size + 1, 1, none⟩ = false := bb15.fz 1
  have lb15 : w.heap.size + 1 < w15.heap.size := bb15.lt
  have bx15 : Blk w15 (w6.heap.size) 23 #[.int .i64 W1, .int .i64 W2] := (by refine BlkG.start ?_; (repeat (first | ((with_reducible apply BlkG.done); (with_reducible assumption); exact rfl) | (with_reducible exact BlkG.newAt (by first | (with_reducible rfl) | omega | (simp; done) | (simp; omega)) rfl) | (with_reducible refine BlkG.drew ?_) | (with_reducible refine BlkG.drewN ?_) | (with_reducible refine BlkG.set ?_) | (with_reducible refine BlkG.far (by first | omega | (simp; done) | (simp; omega)) ?_) | (with_reducible refine BlkG.alloc ?_) | (with_reducible refine BlkG.bel (by with_reducible assumption) (by first | omega | (simp; done) | (simp; omega)) ?_))))
  have cx15_0 : w15.cell? ⟨w6.heap.size, 0, none⟩ = some (.int .i64 W1) := bx15.cell 0
  have fx15_0 : w15.frozen? ⟨w6.heap.size, 0, none⟩ = false := bx15.fz 0
  have cx15_1 : w15.cell? ⟨w6.heap.size, 1, none⟩ = some (.int .i64 W2) := bx15.cell 1
  have fx15_1 : w15.frozen? ⟨w6.heap.size, 1, none⟩ = false := bx15.fz 1
  have lx15 : w6.heap.size < w15.heap.size := bx15.lt
  have HB15 : Below w.heap.size w w15 := (by repeat (first | with_reducible exact Below.refl _ _ | (with_reducible refine Below.alloc ?_ (by first | omega | (simp; done) | (simp; omega)) _) | (with_reducible refine Below.setCell ?_ (by first | omega | (simp; done) | (simp; omega)) _) | (with_reducible refine Below.drew ?_) | (with_reducible refine below_drewN ?_ _) | (with_reducible assumption) | (with_reducible refine bel_step (by with_reducible assumption) ?_ (by first | omega | (simp; done) | (simp; omega)))))
  have HZ15 := HB15.size
  clear hb15 hz15 HB14 HZ14 ba14 la14 ca14_0 fa14_0 ca14_1 fa14_1 bb14 lb14 cb14_0 fb14_0 cb14_1 fb14_1 bx14 lx14 cx14_0 fx14_0 cx14_1 fx14_1 
  go_upto_region 32 with fail
  go_cut [26] (fun s wx => s = .bool true ∧ Blk wx (w.heap.size) 23 #[.int .i64 a, .int .i64 b] ∧ Blk wx (w.heap.size + 1) 23 #[.int .i64 c, .int .i64 d] ∧ Blk wx (w6.heap.size) 23 #[.int .i64 W1, .int .i64 W2] ∧ Below w.heap.size w wx)
  case first =>
    as_aux_lemma =>
    rcases HE2v.out with ⟨rfl, e⟩ | ⟨rfl, e⟩
    · by_cases k1 : b < c
      all_goals
        have e3 := Lib.hid (show bf = decide (b < c) from e)
        clear e
        go_wp2_with fail
        refine (CE.out 0 _ (by repeat (first | with_reducible exact Below.refl _ _ | (with_reducible refine Below.alloc ?_ (by first | omega | (simp; done) | (simp; omega)) _) | (with_reducible refine Below.setCell ?_ (by first | omega | (simp; done) | (simp; omega)) _) | (with_reducible refine Below.drew ?_) | (with_reducible refine below_drewN ?_ _) | (with_reducible assumption) | (with_reducible refine bel_step (by with_reducible assumption) ?_ (by first | omega | (simp; done) | (simp; omega)))))).mono ?_
        rintro e w16 ⟨rfl, hb16⟩
        have ba16 : Blk w16 (w.heap.size) 23 #[.int .i64 a, .int .i64 b] := (by refine BlkG.start ?_; (repeat (first | ((with_reducible apply BlkG.done); (with_reducible assumption); exact rfl) | (with_reducible exact BlkG.newAt (by first | (with_reducible rfl) | omega | (simp; done) | (simp; omega)) rfl) | (with_reducible refine BlkG.drew ?_) | (with_reducible refine BlkG.drewN ?_) | (with_reducible refine BlkG.set ?_) | (with_reducible refine BlkG.far (by first | omega | (simp; done) | (simp; omega)) ?_) | (with_reducible refine BlkG.alloc ?_) | (with_reducible refine BlkG.bel (by with_reducible assumption) (by first | omega | (simp; done) | (simp; omega)) ?_))))
        have ca16_0 : w16.cell? ⟨w.heap.size, 0, none⟩ = some (.int .i64 a) := ba16.cell 0
        have fa16_0 : w16.frozen? ⟨w.heap.size, 0, none⟩ = false := ba16.fz 0
        have ca16_1 : w16.cell? ⟨w.heap.size, 1, none⟩ = some (.int .i64 b) := ba16.cell 1
        have fa16_1 : w16.frozen? ⟨w.heap.size, 1, none⟩ = false := ba16.fz 1
        have la16 : w.heap.size < w16.heap.size := ba16.lt
        have bb16 : Blk w16 (w.heap.size + 1) 23 #[.int .i64 c, .int .i64 d] := (by refine BlkG.start ?_; (repeat (first | ((with_reducible apply BlkG.done); (with_reducible assumption); exact rfl) | (with_reducible exact BlkG.newAt (by first | (with_reducible rfl) | omega | (simp; done) | (simp; omega)) rfl) | (with_reducible refine BlkG.drew ?_) | (with_reducible refine BlkG.drewN ?_) | (with_reducible refine BlkG.set ?_) | (with_reducible refine BlkG.far (by first | omega | (simp; done) | (simp; omega)) ?_) | (with_reducible refine BlkG.alloc ?_) | (with_reducible refine BlkG.bel (by with_reducible assumption) (by first | omega | (simp; done) | (simp; omega)) ?_))))
        have cb16_0 : w16.cell? ⟨w.heap.size + 1, 0, none⟩ = some (.int .i64 c) := bb16.cell 0
        have fb16_0 : w16.frozen? ⟨w.heap.size + 1, 0, none⟩ = false := bb16.fz 0
        have cb16_1 : w16.cell? ⟨w.heap.size + 1, 1, none⟩ = some (.int .i64 d) := bb16.cell 1
        have fb16_1 : w16.frozen? ⟨w.heap.size + 1, 1, none⟩ = false := bb16.fz 1
        have lb16 : w.heap.size + 1 < w16.heap.size := bb16.lt
        have bx16 : Blk w16 (w6.heap.size) 23 #[.int .i64 W1, .int .i64 W2] := (by refine BlkG.start ?_; (repeat (first | ((with_reducible apply BlkG.done); (with_reducible assumption); exact rfl) | (with_reducible exact BlkG.newAt (by first | (with_reducible rfl) | omega | (simp; done) | (simp; omega)) rfl) | (with_reducible refine BlkG.drew ?_) | (with_reducible refine BlkG.drewN ?_) | (with_reducible refine BlkG.set ?_) | (with_reducible refine BlkG.far (by first | omega | (simp; done) | (simp; omega)) ?_) | (with_reducible refine BlkG.alloc ?_) | (with_reducible refine BlkG.bel (by with_reducible assumption) (by first | omega | (simp; done) | (simp; omega)) ?_))))
        have cx16_0 : w16.cell? ⟨w6.heap.size, 0, none⟩ = some (.int .i64 W1) := bx16.cell 0
        have fx16_0 : w16.frozen? ⟨w6.heap.size, 0, none⟩ = false := bx16.fz 0
        have cx16_1 : w16.cell? ⟨w6.heap.size, 1, none⟩ = some (.int .i64 W2) := bx16.cell 1
        have fx16_1 : w16.frozen? ⟨w6.heap.size, 1, none⟩ = false := bx16.fz 1
        have lx16 : w6.heap.size < w16.heap.size := bx16.lt
        go_wp2_with fail
        go_meet
        case rel => exact ⟨by rw [e3.out]; simp [k1], ba16, bb16, bx16, (by repeat (first | with_reducible exact Below.refl _ _ | (with_reducible refine Below.alloc ?_ (by first | omega | (simp; done) | (simp; omega)) _) | (with_reducible refine Below.setCell ?_ (by first | omega | (simp; done) | (simp; omega)) _) | (with_reducible refine Below.drew ?_) | (with_reducible refine below_drewN ?_ _) | (with_reducible assumption) | (with_reducible refine bel_step (by with_reducible assumption) ?_ (by first | omega | (simp; done) | (simp; omega)))))⟩
    · subst e
      go_wp2_with fail
      refine (CE.out 1 _ (by repeat (first | with_reducible exact Below.refl _ _ | (with_reducible refine Below.alloc ?_ (by first | omega | (simp; done) | (simp; omega)) _) | (with_reducible refine Below.setCell ?_ (by first | omega | (simp; done) | (simp; omega)) _) | (with_reducible refine Below.drew ?_) | (with_reducible refine below_drewN ?_ _) | (with_reducible assumption) | (with_reducible refine bel_step (by with_reducible assumption) ?_ (by first | omega | (simp; done) | (simp; omega)))))).mono ?_
      rintro e w16 ⟨rfl, hb16⟩
      have ba16 : Blk w16 (w.heap.size) 23 #[.int .i64 a, .int .i64 b] := (by refine BlkG.start ?_; (repeat (first | ((with_reducible apply BlkG.done); (with_reducible assumption); exact rfl) | (with_reducible exact BlkG.newAt (by first | (with_reducible rfl) | omega | (simp; done) | (simp; omega)) rfl) | (with_reducible refine BlkG.drew ?_) | (with_reducible refine BlkG.drewN ?_) | (with_reducible refine BlkG.set ?_) | (with_reducible refine BlkG.far (by first | omega | (simp; done) | (simp; omega)) ?_) | (with_reducible refine BlkG.alloc ?_) | (with_reducible refine BlkG.bel (by with_reducible assumption) (by first | omega | (simp; done) | (simp; omega)) ?_))))
      have ca16_0 : w16.cell? ⟨w.heap.size, 0, none⟩ = some (.int .i64 a) := ba16.cell 0
      have fa16_0 : w16.frozen? ⟨w.heap.size, 0, none⟩ = false := ba16.fz 0
      have ca16_1 : w16.cell? ⟨w.heap.size, 1, none⟩ = some (.int .i64 b) := ba16.cell 1
      have fa16_1 : w16.frozen? ⟨w.heap.size, 1, none⟩ = false := ba16.fz 1
      have la16 : w.heap.size < w16.heap.size := ba16.lt
      have bb16 : Blk w16 (w.heap.size + 1) 23 #[.int .i64 c, .int .i64 d] := (by refine BlkG.start ?_; (repeat (first | ((with_reducible apply BlkG.done); (with_reducible assumption); exact rfl) | (with_reducible exact BlkG.newAt (by first | (with_reducible rfl) | omega | (simp; done) | (simp; omega)) rfl) | (with_reducible refine BlkG.drew ?_) | (with_reducible refine BlkG.drewN ?_) | (with_reducible refine BlkG.set ?_) | (with_reducible refine BlkG.far (by first | omega | (simp; done) | (simp; omega)) ?_) | (with_reducible refine BlkG.alloc ?_) | (with_reducible refine BlkG.bel (by with_reducible assumption) (by first | omega | (simp; done) | (simp; omega)) ?_))))
      have cb16_0 : w16.cell? ⟨w.heap.size + 1, 0, none⟩ = some (.int .i64 c) := bb16.cell 0
      have fb16_0 : w16.frozen? ⟨w.heap.size + 1, 0, none⟩ = false := bb16.fz 0
      have cb16_1 : w16.cell? ⟨w.heap.size + 1, 1, none⟩ = some (.int .i64 d) := bb16.cell 1
      have fb16_1 : w16.frozen? ⟨w.heap.size + 1, 1, none⟩ = false := bb16.fz 1
      have lb16 : w.heap.size + 1 < w16.heap.size := bb16.lt
      have bx16 : Blk w16 (w6.heap.size) 23 #[.int .i64 W1, .int .i64 W2] := (by refine BlkG.start ?_; (repeat (first | ((with_reducible apply BlkG.done); (with_reducible assumption); exact rfl) | (with_reducible exact BlkG.newAt (by first | (with_reducible rfl) | omega | (simp; done) | (simp; omega)) rfl) | (with_reducible refine BlkG.drew ?_) | (with_reducible refine BlkG.drewN ?_) | (with_reducible refine BlkG.set ?_) | (with_reducible refine BlkG.far (by first | omega | (simp; done) | (simp; omega)) ?_) | (with_reducible refine BlkG.alloc ?_) | (with_reducible refine BlkG.bel (by with_reducible assumption) (by first | omega | (simp; done) | (simp; omega)) ?_))))
      have cx16_0 : w16.cell? ⟨w6.heap.size, 0, none⟩ = some (.int .i64 W1) := bx16.cell 0
      have fx16_0 : w16.frozen? ⟨w6.heap.size, 0, none⟩ = false := bx16.fz 0
      have cx16_1 : w16.cell? ⟨w6.heap.size, 1, none⟩ = some (.int .i64 W2) := bx16.cell 1
      have fx16_1 : w16.frozen? ⟨w6.heap.size, 1, none⟩ = false := bx16.fz 1
      have lx16 : w6.heap.size < w16.heap.size := bx16.lt
      go_wp2_with fail
      go_meet
      case rel => exact ⟨rfl, ba16, bb16, bx16, (by repeat (first | with_reducible exact Below.refl _ _ | (with_reducible refine Below.alloc ?_ (by first | omega | (simp; done) | (simp; omega)) _) | (with_reducible refine Below.setCell ?_ (by first | omega | (simp; done) | (simp; omega)) _) | (with_reducible refine Below.drew ?_) | (with_reducible refine below_drewN ?_ _) | (with_reducible assumption) | (with_reducible refine bel_step (by with_reducible assumption) ?_ (by first | omega | (simp; done) | (simp; omega)))))⟩
  case rest =>
  obtain ⟨rfl, hka, hkb, hkx, hB⟩ := hcut
  obtain ⟨w16, hw16⟩ : ∃ x : World, x = wc := ⟨_, rfl⟩
  subst hw16
  have ba16 : Blk w16 (w.heap.size) 23 #[.int .i64 a, .int .i64 b] := hka
  have ca16_0 : w16.cell? ⟨w.heap.size, 0, none⟩ = some (.int .i64 a) := ba16.cell 0
  have fa16_0 : w16.frozen? ⟨w.heap.size, 0, none⟩ = false := ba16.fz 0
  have ca16_1 : w16.cell? ⟨w.heap.size, 1, none⟩ = some (.int .i64 b) := ba16.cell 1
  have fa16_1 : w16.frozen? ⟨w.heap.size, 1, none⟩ = false := ba16.fz 1
  have la16 : w.heap.size < w16.heap.size := ba16.lt
  have bb16 : Blk w16 (w.heap.size + 1) 23 #[.int .i64 c, .int .i64 d] := hkb
  have cb16_0 : w16.cell? ⟨w.heap.size + 1, 0, none⟩ = some (.int .i64 c) := bb16.cell 0
  have fb16_0 : w16.frozen? ⟨w.heap.size + 1, 0, none⟩ = false := bb16.fz 0
  have cb16_1 : w16.cell? ⟨w.heap.size + 1, 1, none⟩ = some (.int .i64 d) := bb16.cell 1
  have fb16_1 : w16.frozen? ⟨w.heap.size + 1, 1, none⟩ = false := bb16.fz 1
  have lb16 : w.heap.size + 1 < w16.heap.size := bb16.lt
  have bx16 : Blk w16 (w6.heap.size) 23 #[.int .i64 W1, .int .i64 W2] := hkx
  have cx16_0 : w16.cell? ⟨w6.heap.size, 0, none⟩ = some (.int .i64 W1) := bx16.cell 0
  have fx16_0 : w16.frozen? ⟨w6.heap.size, 0, none⟩ = false := bx16.fz 0
  have cx16_1 : w16.cell? ⟨w6.heap.size, 1, none⟩ = some (.int .i64 W2) := bx16.cell 1
  have fx16_1 : w16.frozen? ⟨w6.heap.size, 1, none⟩ = false := bx16.fz 1
  have lx16 : w6.heap.size < w16.heap.size := bx16.lt
  have HB16 : Below w.heap.size w w16 := hB
  have HZ16 := HB16.size
  clear hB hka hkb hkx
  clear HB15 HZ15
  clear ba15 la15 ca15_0 ca15_1 fa15_0 fa15_1
  clear bb15 lb15 cb15_0 cb15_1 fb15_0 fb15_1
  clear bx15 lx15 cx15_0 cx15_1 fx15_0 fx15_1
  have ogh : w6.heap.size < w16.heap.size := by omega
  have ogh2 : w.heap.size + 1 < w16.heap.size := by omega
  go_upto_if 176 with fail
  go_cut [177] (fun _ wx => Blk wx (w.heap.size) 23 #[.int .i64 a, .int .i64 b] ∧ Blk wx (w.heap.size + 1) 23 #[.int .i64 c, .int .i64 d] ∧ Blk wx (w6.heap.size) 23 #[.int .i64 W1, .int .i64 W2] ∧ Blk wx (w16.heap.size) 23 #[.int .i64 H1, .int .i64 H2] ∧ Blk wx (w16.heap.size + 1) 23 #[.int .i64 0, .int .i64 0] ∧ Blk wx (w16.heap.size + 2) 23 #[.int .i64 0, .int .i64 0] ∧ Below w.heap.size w wx)
  case first =>
    as_aux_lemma =>
    rcases HHu.out with ⟨rfl, CL, CG⟩ | ⟨rfl, rfl, rfl⟩
    · clear HHu
      replace CL := Lib.hid CL
      replace CG := Lib.hid CG
      go_wp2_with fail
      go_region_held3 (fun w' => w'.cell? ⟨w.heap.size, 0, none⟩ = some (.int .i64 a) ∧ w'.cell? ⟨w.heap.size, 1, none⟩ = some (.int .i64 b) ∧ w'.cell? ⟨w.heap.size + 1, 0, none⟩ = some (.int .i64 c) ∧ w'.cell? ⟨w.heap.size + 1, 1, none⟩ = some (.int .i64 d)) (first | ((repeat' apply And.intro) <;> exact (Below.cell (B := (w16).heap.size) (w := w16) (by repeat (first | with_reducible exact Below.refl _ _ | (with_reducible refine Below.alloc ?_ (by first | omega | (simp; done) | (simp; omega)) _) | (with_reducible refine Below.setCell ?_ (by first | omega | (simp; done) | (simp; omega)) _) | (with_reducible refine Below.drew ?_) | (with_reducible refine below_drewN ?_ _) | (with_reducible assumption) | (with_reducible refine bel_step (by with_reducible assumption) ?_ (by first | omega | (simp; done) | (simp; omega))))) (by first | omega | (simp; done) | (simp; omega))).trans (by assumption)) | (first | go_keep | ((repeat' apply And.intro) <;> first | (rw [hc1 _ _ (by first | omega | (simp; done) | (simp; omega))]; simp [*]; done) | ((repeat (rw [World.cell?_setCell_other _ _ _ _ (by first | omega | (simp; done) | (simp; omega))])); first | assumption | (simp [*]; done)))))
        (first | (go_at_call 17; refine (CL.out _).mono ?_; rintro e w' ⟨rfl, rfl⟩) | (go_at_call 18; refine (CG.out _).mono ?_; rintro e w' ⟨rfl, rfl⟩))
      all_goals
        go_wp2_with fail
        (try go_region)
        (try go_wp2_with fail)
        go_meet
        case rel => exact ⟨(by refine BlkG.start ?_; (repeat (first | ((with_reducible apply BlkG.done); (with_reducible assumption); exact rfl) | (with_reducible exact BlkG.newAt (by first | (with_reducible rfl) | omega | (simp; done) | (simp; omega)) rfl) | (with_reducible refine BlkG.drew ?_) | (with_reducible refine BlkG.drewN ?_) | (with_reducible refine BlkG.set ?_) | (with_reducible refine BlkG.far (by first | omega | (simp; done) | (simp; omega)) ?_) | (with_reducible refine BlkG.alloc ?_) | (with_reducible refine BlkG.bel (by with_reducible assumption) (by first | omega | (simp; done) | (simp; omega)) ?_)))), (by refine BlkG.start ?_; (repeat (first | ((with_reducible apply BlkG.done); (with_reducible assumption); exact rfl) | (with_reducible exact BlkG.newAt (by first | (with_reducible rfl) | omega | (simp; done) | (simp; omega)) rfl) | (with_reducible refine BlkG.drew ?_) | (with_reducible refine BlkG.drewN ?_) | (with_reducible refine BlkG.set ?_) | (with_reducible refine BlkG.far (by first | omega | (simp; done) | (simp; omega)) ?_) | (with_reducible refine BlkG.alloc ?_) | (with_reducible refine BlkG.bel (by with_reducible assumption) (by first | omega | (simp; done) | (simp; omega)) ?_)))), (by refine BlkG.start ?_; (repeat (first | ((with_reducible apply BlkG.done); (with_reducible assumption); exact rfl) | (with_reducible exact BlkG.newAt (by first | (with_reducible rfl) | omega | (simp; done) | (simp; omega)) rfl) | (with_reducible refine BlkG.drew ?_) | (with_reducible refine BlkG.drewN ?_) | (with_reducible refine BlkG.set ?_) | (with_reducible refine BlkG.far (by first | omega | (simp; done) | (simp; omega)) ?_) | (with_reducible refine BlkG.alloc ?_) | (with_reducible refine BlkG.bel (by with_reducible assumption) (by first | omega | (simp; done) | (simp; omega)) ?_)))), (by refine BlkG.start ?_; (repeat (first | ((with_reducible apply BlkG.done); (with_reducible assumption); exact rfl) | (with_reducible exact BlkG.newAt (by first | (with_reducible rfl) | omega | (simp; done) | (simp; omega)) rfl) | (with_reducible refine BlkG.drew ?_) | (with_reducible refine BlkG.drewN ?_) | (with_reducible refine BlkG.set ?_) | (with_reducible refine BlkG.far (by first | omega | (simp; done) | (simp; omega)) ?_) | (with_reducible refine BlkG.alloc ?_) | (with_reducible refine BlkG.bel (by with_reducible assumption) (by first | omega | (simp; done) | (simp; omega)) ?_)))), (by refine BlkG.start ?_; (repeat (first | ((with_reducible apply BlkG.done); (with_reducible assumption); exact rfl) | (with_reducible exact BlkG.newAt (by first | (with_reducible rfl) | omega | (simp; done) | (simp; omega)) rfl) | (with_reducible refine BlkG.drew ?_) | (with_reducible refine BlkG.drewN ?_) | (with_reducible refine BlkG.set ?_) | (with_reducible refine BlkG.far (by first | omega | (simp; done) | (simp; omega)) ?_) | (with_reducible refine BlkG.alloc ?_) | (with_reducible refine BlkG.bel (by with_reducible assumption) (by first | omega | (simp; done) | (simp; omega)) ?_)))), (by refine BlkG.start ?_; (repeat (first | ((with_reducible apply BlkG.done); (with_reducible assumption); exact rfl) | (with_reducible exact BlkG.newAt (by first | (with_reducible rfl) | omega | (simp; done) | (simp; omega)) rfl) | (with_reducible refine BlkG.drew ?_) | (with_reducible refine BlkG.drewN ?_) | (with_reducible refine BlkG.set ?_) | (with_reducible refine BlkG.far (by first | omega | (simp; done) | (simp; omega)) ?_) | (with_reducible refine BlkG.alloc ?_) | (with_reducible refine BlkG.bel (by with_reducible assumption) (by first | omega | (simp; done) | (simp; omega)) ?_)))), (by repeat (first | with_reducible exact Below.refl _ _ | (with_reducible refine Below.alloc ?_ (by first | omega | (simp; done) | (simp; omega)) _) | (with_reducible refine Below.setCell ?_ (by first | omega | (simp; done) | (simp; omega)) _) | (with_reducible refine Below.drew ?_) | (with_reducible refine below_drewN ?_ _) | (with_reducible assumption) | (with_reducible refine bel_step (by with_reducible assumption) ?_ (by first | omega | (simp; done) | (simp; omega)))))⟩
    · clear HHu
      go_wp2_with fail
      go_meet
      case rel => exact ⟨(by refine BlkG.start ?_; (repeat (first | ((with_reducible apply BlkG.done); (with_reducible assumption); exact rfl) | (with_reducible exact BlkG.newAt (by first | (with_reducible rfl) | omega | (simp; done) | (simp; omega)) rfl) | (with_reducible refine BlkG.drew ?_) | (with_reducible refine BlkG.drewN ?_) | (with_reducible refine BlkG.set ?_) | (with_reducible refine BlkG.far (by first | omega | (simp; done) | (simp; omega)) ?_) | (with_reducible refine BlkG.alloc ?_) | (with_reducible refine BlkG.bel (by with_reducible assumption) (by first | omega | (simp; done) | (simp; omega)) ?_)))), (by refine BlkG.start ?_; (repeat (first | ((with_reducible apply BlkG.done); (with_reducible assumption); exact rfl) | (with_reducible exact BlkG.newAt (by first | (with_reducible rfl) | omega | (simp; done) | (simp; omega)) rfl) | (with_reducible refine BlkG.drew ?_) | (with_reducible refine BlkG.drewN ?_) | (with_reducible refine BlkG.set ?_) | (with_reducible refine BlkG.far (by first | omega | (simp; done) | (simp; omega)) ?_) | (with_reducible refine BlkG.alloc ?_) | (with_reducible refine BlkG.bel (by with_reducible assumption) (by first | omega | (simp; done) | (simp; omega)) ?_)))), (by refine BlkG.start ?_; (repeat (first | ((with_reducible apply BlkG.done); (with_reducible assumption); exact rfl) | (with_reducible exact BlkG.newAt (by first | (with_reducible rfl) | omega | (simp; done) | (simp; omega)) rfl) | (with_reducible refine BlkG.drew ?_) | (with_reducible refine BlkG.drewN ?_) | (with_reducible refine BlkG.set ?_) | (with_reducible refine BlkG.far (by first | omega | (simp; done) | (simp; omega)) ?_) | (with_reducible refine BlkG.alloc ?_) | (with_reducible refine BlkG.bel (by with_reducible assumption) (by first | omega | (simp; done) | (simp; omega)) ?_)))), (by refine BlkG.start ?_; (repeat (first | ((with_reducible apply BlkG.done); (with_reducible assumption); exact rfl) | (with_reducible exact BlkG.newAt (by first | (with_reducible rfl) | omega | (simp; done) | (simp; omega)) rfl) | (with_reducible refine BlkG.drew ?_) | (with_reducible refine BlkG.drewN ?_) | (with_reducible refine BlkG.set ?_) | (with_reducible refine BlkG.far (by first | omega | (simp; done) | (simp; omega)) ?_) | (with_reducible refine BlkG.alloc ?_) | (with_reducible refine BlkG.bel (by with_reducible assumption) (by first | omega | (simp; done) | (simp; omega)) ?_)))), (by refine BlkG.start ?_; (repeat (first | ((with_reducible apply BlkG.done); (with_reducible assumption); exact rfl) | (with_reducible exact BlkG.newAt (by first | (with_reducible rfl) | omega | (simp; done) | (simp; omega)) rfl) | (with_reducible refine BlkG.drew ?_) | (with_reducible refine BlkG.drewN ?_) | (with_reducible refine BlkG.set ?_) | (with_reducible refine BlkG.far (by first | omega | (simp; done) | (simp; omega)) ?_) | (with_reducible refine BlkG.alloc ?_) | (with_reducible refine BlkG.bel (by with_reducible assumption) (by first | omega | (simp; done) | (simp; omega)) ?_)))), (by refine BlkG.start ?_; (repeat (first | ((with_reducible apply BlkG.done); (with_reducible assumption); exact rfl) | (with_reducible exact BlkG.newAt (by first | (with_reducible rfl) | omega | (simp; done) | (simp; omega)) rfl) | (with_reducible refine BlkG.drew ?_) | (with_reducible refine BlkG.drewN ?_) | (with_reducible refine BlkG.set ?_) | (with_reducible refine BlkG.far (by first | omega | (simp; done) | (simp; omega)) ?_) | (with_reducible refine BlkG.alloc ?_) | (with_reducible refine BlkG.bel (by with_reducible assumption) (by first | omega | (simp; done) | (simp; omega)) ?_)))), (by repeat (first | with_reducible exact Below.refl _ _ | (with_reducible refine Below.alloc ?_ (by first | omega | (simp; done) | (simp; omega)) _) | (with_reducible refine Below.setCell ?_ (by first | omega | (simp; done) | (simp; omega)) _) | (with_reducible refine Below.drew ?_) | (with_reducible refine below_drewN ?_ _) | (with_reducible assumption) | (with_reducible refine bel_step (by with_reducible assumption) ?_ (by first | omega | (simp; done) | (simp; omega)))))⟩
  case rest =>
  as_aux_lemma =>
  obtain ⟨hka, hkb, hkx, hkh, hks, hkm, hB⟩ := hcut
  obtain ⟨w17, hw17⟩ : ∃ x : World, x = wc := ⟨_, rfl⟩
  subst hw17
  have ba17 : Blk w17 (w.heap.size) 23 #[.int .i64 a, .int .i64 b] := hka
  have ca17_0 : w17.cell? ⟨w.heap.size, 0, none⟩ = some (.int .i64 a) := ba17.cell 0
  have fa17_0 : w17.frozen? ⟨w.heap.size, 0, none⟩ = false := ba17.fz 0
  have ca17_1 : w17.cell? ⟨w.heap.size, 1, none⟩ = some (.int .i64 b) := ba17.cell 1
  have fa17_1 : w17.frozen? ⟨w.heap.size, 1, none⟩ = false := ba17.fz 1
  have la17 : w.heap.size < w17.heap.size := ba17.lt
  have bb17 : Blk w17 (w.heap.size + 1) 23 #[.int .i64 c, .int .i64 d] := hkb
  have cb17_0 : w17.cell? ⟨w.heap.size + 1, 0, none⟩ = some (.int .i64 c) := bb17.cell 0
  have fb17_0 : w17.frozen? ⟨w.heap.size + 1, 0, none⟩ = false := bb17.fz 0
  have cb17_1 : w17.cell? ⟨w.heap.size + 1, 1, none⟩ = some (.int .i64 d) := bb17.cell 1
  have fb17_1 : w17.frozen? ⟨w.heap.size + 1, 1, none⟩ = false := bb17.fz 1
  have lb17 : w.heap.size + 1 < w17.heap.size := bb17.lt
  have bx17 : Blk w17 (w6.heap.size) 23 #[.int .i64 W1, .int .i64 W2] := hkx
  have cx17_0 : w17.cell? ⟨w6.heap.size, 0, none⟩ = some (.int .i64 W1) := bx17.cell 0
  have fx17_0 : w17.frozen? ⟨w6.heap.size, 0, none⟩ = false := bx17.fz 0
  have cx17_1 : w17.cell? ⟨w6.heap.size, 1, none⟩ = some (.int .i64 W2) := bx17.cell 1
  have fx17_1 : w17.frozen? ⟨w6.heap.size, 1, none⟩ = false := bx17.fz 1
  have lx17 : w6.heap.size < w17.heap.size := bx17.lt
  have bh17 : Blk w17 (w16.heap.size) 23 #[.int .i64 H1, .int .i64 H2] := hkh
  have ch17_0 : w17.cell? ⟨w16.heap.size, 0, none⟩ = some (.int .i64 H1) := bh17.cell 0
  have fh17_0 : w17.frozen? ⟨w16.heap.size, 0, none⟩ = false := bh17.fz 0
  have ch17_1 : w17.cell? ⟨w16.heap.size, 1, none⟩ = some (.int .i64 H2) := bh17.cell 1
  have fh17_1 : w17.frozen? ⟨w16.heap.size, 1, none⟩ = false := bh17.fz 1
  have lh17 : w16.heap.size < w17.heap.size := bh17.lt
  have bs17 : Blk w17 (w16.heap.size + 1) 23 #[.int .i64 0, .int .i64 0] := hks
  have cs17_0 : w17.cell? ⟨w16.heap.size + 1, 0, none⟩ = some (.int .i64 0) := bs17.cell 0
  have fs17_0 : w17.frozen? ⟨w16.heap.size + 1, 0, none⟩ = false := bs17.fz 0
  have cs17_1 : w17.cell? ⟨w16.heap.size + 1, 1, none⟩ = some (.int .i64 0) := bs17.cell 1
  have fs17_1 : w17.frozen? ⟨w16.heap.size + 1, 1, none⟩ = false := bs17.fz 1
  have ls17 : w16.heap.size + 1 < w17.heap.size := bs17.lt
  have bm17 : Blk w17 (w16.heap.size + 2) 23 #[.int .i64 0, .int .i64 0] := hkm
  have cm17_0 : w17.cell? ⟨w16.heap.size + 2, 0, none⟩ = some (.int .i64 0) := bm17.cell 0
  have fm17_0 : w17.frozen? ⟨w16.heap.size + 2, 0, none⟩ = false := bm17.fz 0
  have cm17_1 : w17.cell? ⟨w16.heap.size + 2, 1, none⟩ = some (.int .i64 0) := bm17.cell 1
  have fm17_1 : w17.frozen? ⟨w16.heap.size + 2, 1, none⟩ = false := bm17.fz 1
  have lm17 : w16.heap.size + 2 < w17.heap.size := bm17.lt
  have HB17 : Below w.heap.size w w17 := hB
  have HZ17 := HB17.size
  clear hB hka hkb hkx hkh hks hkm
  clear HB16 HZ16
  clear ba16 la16 ca16_0 ca16_1 fa16_0 fa16_1
  clear bb16 lb16 cb16_0 cb16_1 fb16_0 fb16_1
  clear bx16 lx16 cx16_0 cx16_1 fx16_0 fx16_1
  obtain ⟨gh, egh⟩ : ∃ g, w16.heap.size = g := ⟨_, rfl⟩
  rw [egh] at ogh ogh2 bh17 ch17_0 ch17_1 fh17_0 fh17_1 lh17 bs17 cs17_0 cs17_1 fs17_0 fs17_1 ls17 bm17 cm17_0 cm17_1 fm17_0 fm17_1 lm17 ⊢
  clear egh
  go_wp2_with fail
  refine (CHu.out _).mono ?_
  rintro e w18 ⟨rfl, hb18⟩
  have hz18 := hb18.size
  (try simp at hz18)
  have ba18 : Blk w18 (w.heap.size) 23 #[.int .i64 a, .int .i64 b] := (by refine BlkG.start ?_; (repeat (first | ((with_reducible apply BlkG.done); (with_reducible assumption); exact rfl) | (with_reducible exact BlkG.newAt (by first | (with_reducible rfl) | omega | (simp; done) | (simp; omega)) rfl) | (with_reducible refine BlkG.drew ?_) | (with_reducible refine BlkG.drewN ?_) | (with_reducible refine BlkG.set ?_) | (with_reducible refine BlkG.far (by first | omega | (simp; done) | (simp; omega)) ?_) | (with_reducible refine BlkG.alloc ?_) | (with_reducible refine BlkG.bel (by with_reducible assumption) (by first | omega | (simp; done) | (simp; omega)) ?_))))
  have ca18_0 : w18.cell? ⟨w.heap.size, 0, none⟩ = some (.int .i64 a) := ba18.cell 0
  have fa18_0 : w18.frozen? ⟨w.heap.size, 0, none⟩ = false := ba18.fz 0
  have ca18_1 : w18.cell? ⟨w.heap.size, 1, none⟩ = some (.int .i64 b) := ba18.cell 1
  have fa18_1 : w18.frozen? ⟨w.heap.size, 1, none⟩ = false := ba18.fz 1
  have la18 : w.heap.size < w18.heap.size := ba18.lt
  have bb18 : Blk w18 (w.heap.size + 1) 23 #[.int .i64 c, .int .i64 d] := (by refine BlkG.start ?_; (repeat (first | ((with_reducible apply BlkG.done); (with_reducible assumption); exact rfl) | (with_reducible exact BlkG.newAt (by first | (with_reducible rfl) | omega | (simp; done) | (simp; omega)) rfl) | (with_reducible refine BlkG.drew ?_) | (with_reducible refine BlkG.drewN ?_) | (with_reducible refine BlkG.set ?_) | (with_reducible refine BlkG.far (by first | omega | (simp; done) | (simp; omega)) ?_) | (with_reducible refine BlkG.alloc ?_) | (with_reducible refine BlkG.bel (by with_reducible assumption) (by first | omega | (simp; done) | (simp; omega)) ?_))))
  have cb18_0 : w18.cell? ⟨w.heap.size + 1, 0, none⟩ = some (.int .i64 c) := bb18.cell 0
  have fb18_0 : w18.frozen? ⟨w.heap.size + 1, 0, none⟩ = false := bb18.fz 0
  have cb18_1 : w18.cell? ⟨w.heap.size + 1, 1, none⟩ = some (.int .i64 d) := bb18.cell 1
  have fb18_1 : w18.frozen? ⟨w.heap.size + 1, 1, none⟩ = false := bb18.fz 1
  have lb18 : w.heap.size + 1 < w18.heap.size := bb18.lt
  have bx18 : Blk w18 (w6.heap.size) 23 #[.int .i64 W1, .int .i64 W2] := (by refine BlkG.start ?_; (repeat (first | ((with_reducible apply BlkG.done); (with_reducible assumption); exact rfl) | (with_reducible exact BlkG.newAt (by first | (with_reducible rfl) | omega | (simp; done) | (simp; omega)) rfl) | (with_reducible refine BlkG.drew ?_) | (with_reducible refine BlkG.drewN ?_) | (with_reducible refine BlkG.set ?_) | (with_reducible refine BlkG.far (by first | omega | (simp; done) | (simp; omega)) ?_) | (with_reducible refine BlkG.alloc ?_) | (with_reducible refine BlkG.bel (by with_reducible assumption) (by first | omega | (simp; done) | (simp; omega)) ?_))))
  have cx18_0 : w18.cell? ⟨w6.heap.size, 0, none⟩ = some (.int .i64 W1) := bx18.cell 0
  have fx18_0 : w18.frozen? ⟨w6.heap.size, 0, none⟩ = false := bx18.fz 0
  have cx18_1 : w18.cell? ⟨w6.heap.size, 1, none⟩ = some (.int .i64 W2) := bx18.cell 1
  have fx18_1 : w18.frozen? ⟨w6.heap.size, 1, none⟩ = false := bx18.fz 1
  have lx18 : w6.heap.size < w18.heap.size := bx18.lt
  have bh18 : Blk w18 (gh) 23 #[.int .i64 H1, .int .i64 H2] := (by refine BlkG.start ?_; (repeat (first | ((with_reducible apply BlkG.done); (with_reducible assumption); exact rfl) | (with_reducible exact BlkG.newAt (by first | (with_reducible rfl) | omega | (simp; done) | (simp; omega)) rfl) | (with_reducible refine BlkG.drew ?_) | (with_reducible refine BlkG.drewN ?_) | (with_reducible refine BlkG.set ?_) | (with_reducible refine BlkG.far (by first | omega | (simp; done) | (simp; omega)) ?_) | (with_reducible refine BlkG.alloc ?_) | (with_reducible refine BlkG.bel (by with_reducible assumption) (by first | omega | (simp; done) | (simp; omega)) ?_))))
  have ch18_0 : w18.cell? ⟨gh, 0, none⟩ = some (.int .i64 H1) := bh18.cell 0
  have fh18_0 : w18.frozen? ⟨gh, 0, none⟩ = false := bh18.fz 0
  have ch18_1 : w18.cell? ⟨gh, 1, none⟩ = some (.int .i64 H2) := bh18.cell 1
  have fh18_1 : w18.frozen? ⟨gh, 1, none⟩ = false := bh18.fz 1
  have lh18 : gh < w18.heap.size := bh18.lt
  have bs18 : Blk w18 (gh + 1) 23 #[.int .i64 0, .int .i64 0] := (by refine BlkG.start ?_; (repeat (first | ((with_reducible apply BlkG.done); (with_reducible assumption); exact rfl) | (with_reducible exact BlkG.newAt (by first | (with_reducible rfl) | omega | (simp; done) | (simp; omega)) rfl) | (with_reducible refine BlkG.drew ?_) | (with_reducible refine BlkG.drewN ?_) | (with_reducible refine BlkG.set ?_) | (with_reducible refine BlkG.far (by first | omega | (simp; done) | (simp; omega)) ?_) | (with_reducible refine BlkG.alloc ?_) | (with_reducible refine BlkG.bel (by with_reducible assumption) (by first | omega | (simp; done) | (simp; omega)) ?_))))
  have cs18_0 : w18.cell? ⟨gh + 1, 0, none⟩ = some (.int .i64 0) := bs18.cell 0
  have fs18_0 : w18.frozen? ⟨gh + 1, 0, none⟩ = false := bs18.fz 0
  have cs18_1 : w18.cell? ⟨gh + 1, 1, none⟩ = some (.int .i64 0) := bs18.cell 1
  have fs18_1 : w18.frozen? ⟨gh + 1, 1, none⟩ = false := bs18.fz 1
  have ls18 : gh + 1 < w18.heap.size := bs18.lt
  have bm18 : Blk w18 (gh + 2) 23 #[.int .i64 0, .int .i64 0] := (by refine BlkG.start ?_; (repeat (first | ((with_reducible apply BlkG.done); (with_reducible assumption); exact rfl) | (with_reducible exact BlkG.newAt (by first | (with_reducible rfl) | omega | (simp; done) | (simp; omega)) rfl) | (with_reducible refine BlkG.drew ?_) | (with_reducible refine BlkG.drewN ?_) | (with_reducible refine BlkG.set ?_) | (with_reducible refine BlkG.far (by first | omega | (simp; done) | (simp; omega)) ?_) | (with_reducible refine BlkG.alloc ?_) | (with_reducible refine BlkG.bel (by with_reducible assumption) (by first | omega | (simp; done) | (simp; omega)) ?_))))
  have cm18_0 : w18.cell? ⟨gh + 2, 0, none⟩ = some (.int .i64 0) := bm18.cell 0
  have fm18_0 : w18.frozen? ⟨gh + 2, 0, none⟩ = false := bm18.fz 0
  have cm18_1 : w18.cell? ⟨gh + 2, 1, none⟩ = some (.int .i64 0) := bm18.cell 1
  have fm18_1 : w18.frozen? ⟨gh + 2, 1, none⟩ = false := bm18.fz 1
  have lm18 : gh + 2 < w18.heap.size := bm18.lt
  have HB18 : Below w.heap.size w w18 := (by repeat (first | with_reducible exact Below.refl _ _ | (with_reducible refine Below.alloc ?_ (by first | omega | (simp; done) | (simp; omega)) _) | (with_reducible refine Below.setCell ?_ (by first | omega | (simp; done) | (simp; omega)) _) | (with_reducible refine Below.drew ?_) | (with_reducible refine below_drewN ?_ _) | (with_reducible assumption) | (with_reducible refine bel_step (by with_reducible assumption) ?_ (by first | omega | (simp; done) | (simp; omega)))))
  have HZ18 := HB18.size
  clear hb18 hz18 HB17 HZ17 ba17 la17 ca17_0 fa17_0 ca17_1 fa17_1 bb17 lb17 cb17_0 fb17_0 cb17_1 fb17_1 bx17 lx17 cx17_0 fx17_0 cx17_1 fx17_1 bh17 lh17 ch17_0 fh17_0 ch17_1 fh17_1 bs17 ls17 cs17_0 fs17_0 cs17_1 fs17_1 bm17 lm17 cm17_0 fm17_0 cm17_1 fm17_1 
  go_wp2_with fail
  refine (CE.out e2 _ (by repeat (first | with_reducible exact Below.refl _ _ | (with_reducible refine Below.alloc ?_ (by first | omega | (simp; done) | (simp; omega)) _) | (with_reducible refine Below.setCell ?_ (by first | omega | (simp; done) | (simp; omega)) _) | (with_reducible refine Below.drew ?_) | (with_reducible refine below_drewN ?_ _) | (with_reducible assumption) | (with_reducible refine bel_step (by with_reducible assumption) ?_ (by first | omega | (simp; done) | (simp; omega)))))).mono ?_
  rintro e w19 ⟨rfl, hb19⟩
  have hz19 := hb19.size
  (try simp at hz19)
  have ba19 : Blk w19 (w.heap.size) 23 #[.int .i64 a, .int .i64 b] := (by refine BlkG.start ?_; (repeat (first | ((with_reducible apply BlkG.done); (with_reducible assumption); exact rfl) | (with_reducible exact BlkG.newAt (by first | (with_reducible rfl) | omega | (simp; done) | (simp; omega)) rfl) | (with_reducible refine BlkG.drew ?_) | (with_reducible refine BlkG.drewN ?_) | (with_reducible refine BlkG.set ?_) | (with_reducible refine BlkG.far (by first | omega | (simp; done) | (simp; omega)) ?_) | (with_reducible refine BlkG.alloc ?_) | (with_reducible refine BlkG.bel (by with_reducible assumption) (by first | omega | (simp; done) | (simp; omega)) ?_))))
  have ca19_0 : w19.cell? ⟨w.heap.size, 0, none⟩ = some (.int .i64 a) := ba19.cell 0
  have fa19_0 : w19.frozen? ⟨w.heap.size, 0, none⟩ = false := ba19.fz 0
  have ca19_1 : w19.cell? ⟨w.heap.size, 1, none⟩ = some (.int .i64 b) := ba19.cell 1
  have fa19_1 : w19.frozen? ⟨w.heap.size, 1, none⟩ = false := ba19.fz 1
  have la19 : w.heap.size < w19.heap.size := ba19.lt
  have bb19 : Blk w19 (w.heap.size + 1) 23 #[.int .i64 c, .int .i64 d] := (by refine BlkG.start ?_; (repeat (first | ((with_reducible apply BlkG.done); (with_reducible assumption); exact rfl) | (with_reducible exact BlkG.newAt (by first | (with_reducible rfl) | omega | (simp; done) | (simp; omega)) rfl) | (with_reducible refine BlkG.drew ?_) | (with_reducible refine BlkG.drewN ?_) | (with_reducible refine BlkG.set ?_) | (with_reducible refine BlkG.far (by first | omega | (simp; done) | (simp; omega)) ?_) | (with_reducible refine BlkG.alloc ?_) | (with_reducible refine BlkG.bel (by with_reducible assumption) (by first | omega | (simp; done) | (simp; omega)) ?_))))
  have cb19_0 : w19.cell? ⟨w.heap.size + 1, 0, none⟩ = some (.int .i64 c) := bb19.cell 0
  have fb19_0 : w19.frozen? ⟨w.heap.size + 1, 0, none⟩ = false := bb19.fz 0
  have cb19_1 : w19.cell? ⟨w.heap.size + 1, 1, none⟩ = some (.int .i64 d) := bb19.cell 1
  have fb19_1 : w19.frozen? ⟨w.heap.size + 1, 1, none⟩ = false := bb19.fz 1
  have lb19 : w.heap.size + 1 < w19.heap.size := bb19.lt
  have bx19 : Blk w19 (w6.heap.size) 23 #[.int .i64 H1, .int .i64 H2] := (by refine BlkG.start ?_; (repeat (first | ((with_reducible apply BlkG.done); (with_reducible assumption); exact rfl) | (with_reducible exact BlkG.newAt (by first | (with_reducible rfl) | omega | (simp; done) | (simp; omega)) rfl) | (with_reducible refine BlkG.drew ?_) | (with_reducible refine BlkG.drewN ?_) | (with_reducible refine BlkG.set ?_) | (with_reducible refine BlkG.far (by first | omega | (simp; done) | (simp; omega)) ?_) | (with_reducible refine BlkG.alloc ?_) | (with_reducible refine BlkG.bel (by with_reducible assumption) (by first | omega | (simp; done) | (simp; omega)) ?_))))
  have cx19_0 : w19.cell? ⟨w6.heap.size, 0, none⟩ = some (.int .i64 H1) := bx19.cell 0
  have fx19_0 : w19.frozen? ⟨w6.heap.size, 0, none⟩ = false := bx19.fz 0
  have cx19_1 : w19.cell? ⟨w6.heap.size, 1, none⟩ = some (.int .i64 H2) := bx19.cell 1
  have fx19_1 : w19.frozen? ⟨w6.heap.size, 1, none⟩ = false := bx19.fz 1
  have lx19 : w6.heap.size < w19.heap.size := bx19.lt
  have bh19 : Blk w19 (gh) 23 #[.int .i64 H1, .int .i64 H2] := (by refine BlkG.start ?_; (repeat (first | ((with_reducible apply BlkG.done); (with_reducible assumption); exact rfl) | (with_reducible exact BlkG.newAt (by first | (with_reducible rfl) | omega | (simp; done) | (simp; omega)) rfl) | (with_reducible refine BlkG.drew ?_) | (with_reducible refine BlkG.drewN ?_) | (with_reducible refine BlkG.set ?_) | (with_reducible refine BlkG.far (by first | omega | (simp; done) | (simp; omega)) ?_) | (with_reducible refine BlkG.alloc ?_) | (with_reducible refine BlkG.bel (by with_reducible assumption) (by first | omega | (simp; done) | (simp; omega)) ?_))))
  have ch19_0 : w19.cell? ⟨gh, 0, none⟩ = some (.int .i64 H1) := bh19.cell 0
  have fh19_0 : w19.frozen? ⟨gh, 0, none⟩ = false := bh19.fz 0
  have ch19_1 : w19.cell? ⟨gh, 1, none⟩ = some (.int .i64 H2) := bh19.cell 1
  have fh19_1 : w19.frozen? ⟨gh, 1, none⟩ = false := bh19.fz 1
  have lh19 : gh < w19.heap.size := bh19.lt
  have bs19 : Blk w19 (gh + 1) 23 #[.int .i64 0, .int .i64 0] := (by refine BlkG.start ?_; (repeat (first | ((with_reducible apply BlkG.done); (with_reducible assumption); exact rfl) | (with_reducible exact BlkG.newAt (by first | (with_reducible rfl) | omega | (simp; done) | (simp; omega)) rfl) | (with_reducible refine BlkG.drew ?_) | (with_reducible refine BlkG.drewN ?_) | (with_reducible refine BlkG.set ?_) | (with_reducible refine BlkG.far (by first | omega | (simp; done) | (simp; omega)) ?_) | (with_reducible refine BlkG.alloc ?_) | (with_reducible refine BlkG.bel (by with_reducible assumption) (by first | omega | (simp; done) | (simp; omega)) ?_))))
  have cs19_0 : w19.cell? ⟨gh + 1, 0, none⟩ = some (.int .i64 0) := bs19.cell 0
  have fs19_0 : w19.frozen? ⟨gh + 1, 0, none⟩ = false := bs19.fz 0
  have cs19_1 : w19.cell? ⟨gh + 1, 1, none⟩ = some (.int .i64 0) := bs19.cell 1
  have fs19_1 : w19.frozen? ⟨gh + 1, 1, none⟩ = false := bs19.fz 1
  have ls19 : gh + 1 < w19.heap.size := bs19.lt
  have bm19 : Blk w19 (gh + 2) 23 #[.int .i64 0, .int .i64 0] := (by refine BlkG.start ?_; (repeat (first | ((with_reducible apply BlkG.done); (with_reducible assumption); exact rfl) | (with_reducible exact BlkG.newAt (by first | (with_reducible rfl) | omega | (simp; done) | (simp; omega)) rfl) | (with_reducible refine BlkG.drew ?_) | (with_reducible refine BlkG.drewN ?_) | (with_reducible refine BlkG.set ?_) | (with_reducible refine BlkG.far (by first | omega | (simp; done) | (simp; omega)) ?_) | (with_reducible refine BlkG.alloc ?_) | (with_reducible refine BlkG.bel (by with_reducible assumption) (by first | omega | (simp; done) | (simp; omega)) ?_))))
  have cm19_0 : w19.cell? ⟨gh + 2, 0, none⟩ = some (.int .i64 0) := bm19.cell 0
  have fm19_0 : w19.frozen? ⟨gh + 2, 0, none⟩ = false := bm19.fz 0
  have cm19_1 : w19.cell? ⟨gh + 2, 1, none⟩ = some (.int .i64 0) := bm19.cell 1
  have fm19_1 : w19.frozen? ⟨gh + 2, 1, none⟩ = false := bm19.fz 1
  have lm19 : gh + 2 < w19.heap.size := bm19.lt
  have HB19 : Below w.heap.size w w19 := (by repeat (first | with_reducible exact Below.refl _ _ | (with_reducible refine Below.alloc ?_ (by first | omega | (simp; done) | (simp; omega)) _) | (with_reducible refine Below.setCell ?_ (by first | omega | (simp; done) | (simp; omega)) _) | (with_reducible refine Below.drew ?_) | (with_reducible refine below_drewN ?_ _) | (with_reducible assumption) | (with_reducible refine bel_step (by with_reducible assumption) ?_ (by first | omega | (simp; done) | (simp; omega)))))
  have HZ19 := HB19.size
  clear hb19 hz19 HB18 HZ18 ba18 la18 ca18_0 fa18_0 ca18_1 fa18_1 bb18 lb18 cb18_0 fb18_0 cb18_1 fb18_1 bx18 lx18 cx18_0 fx18_0 cx18_1 fx18_1 bh18 lh18 ch18_0 fh18_0 ch18_1 fh18_1 bs18 ls18 cs18_0 fs18_0 cs18_1 fs18_1 bm18 lm18 cm18_0 fm18_0 cm18_1 fm18_1 
  go_upto_if 204 with fail
  go_cut [23, 31, 32] (fun s _ _ wx => s = .int .i64 f2 ∧ Blk wx (w.heap.size) 23 #[.int .i64 a, .int .i64 b] ∧ Blk wx (w.heap.size + 1) 23 #[.int .i64 c, .int .i64 d] ∧ Blk wx (w6.heap.size) 23 #[.int .i64 H1, .int .i64 H2] ∧ Blk wx (gh + 1) 23 #[.int .i64 0, .int .i64 0] ∧ Blk wx (gh + 2) 23 #[.int .i64 M1, .int .i64 M2] ∧ Below w.heap.size w wx)
  case first =>
    as_aux_lemma =>
    rcases HMe.out with ⟨rfl, rfl, rfl, rfl⟩ | ⟨rfl, m1, m2, com, CRM, hm0, hm1⟩
    · clear HMe
      go_wp2_with fail
      go_meet
      case rel => exact ⟨rfl, (by refine BlkG.start ?_; (repeat (first | ((with_reducible apply BlkG.done); (with_reducible assumption); exact rfl) | (with_reducible exact BlkG.newAt (by first | (with_reducible rfl) | omega | (simp; done) | (simp; omega)) rfl) | (with_reducible refine BlkG.drew ?_) | (with_reducible refine BlkG.drewN ?_) | (with_reducible refine BlkG.set ?_) | (with_reducible refine BlkG.far (by first | omega | (simp; done) | (simp; omega)) ?_) | (with_reducible refine BlkG.alloc ?_) | (with_reducible refine BlkG.bel (by with_reducible assumption) (by first | omega | (simp; done) | (simp; omega)) ?_)))), (by refine BlkG.start ?_; (repeat (first | ((with_reducible apply BlkG.done); (with_reducible assumption); exact rfl) | (with_reducible exact BlkG.newAt (by first | (with_reducible rfl) | omega | (simp; done) | (simp; omega)) rfl) | (with_reducible refine BlkG.drew ?_) | (with_reducible refine BlkG.drewN ?_) | (with_reducible refine BlkG.set ?_) | (with_reducible refine BlkG.far (by first | omega | (simp; done) | (simp; omega)) ?_) | (with_reducible refine BlkG.alloc ?_) | (with_reducible refine BlkG.bel (by with_reducible assumption) (by first | omega | (simp; done) | (simp; omega)) ?_)))), (by refine BlkG.start ?_; (repeat (first | ((with_reducible apply BlkG.done); (with_reducible assumption); exact rfl) | (with_reducible exact BlkG.newAt (by first | (with_reducible rfl) | omega | (simp; done) | (simp; omega)) rfl) | (with_reducible refine BlkG.drew ?_) | (with_reducible refine BlkG.drewN ?_) | (with_reducible refine BlkG.set ?_) | (with_reducible refine BlkG.far (by first | omega | (simp; done) | (simp; omega)) ?_) | (with_reducible refine BlkG.alloc ?_) | (with_reducible refine BlkG.bel (by with_reducible assumption) (by first | omega | (simp; done) | (simp; omega)) ?_)))), (by refine BlkG.start ?_; (repeat (first | ((with_reducible apply BlkG.done); (with_reducible assumption); exact rfl) | (with_reducible exact BlkG.newAt (by first | (with_reducible rfl) | omega | (simp; done) | (simp; omega)) rfl) | (with_reducible refine BlkG.drew ?_) | (with_reducible refine BlkG.drewN ?_) | (with_reducible refine BlkG.set ?_) | (with_reducible refine BlkG.far (by first | omega | (simp; done) | (simp; omega)) ?_) | (with_reducible refine BlkG.alloc ?_) | (with_reducible refine BlkG.bel (by with_reducible assumption) (by first | omega | (simp; done) | (simp; omega)) ?_)))), (by refine BlkG.start ?_; (repeat (first | ((with_reducible apply BlkG.done); (with_reducible assumption); exact rfl) | (with_reducible exact BlkG.newAt (by first | (with_reducible rfl) | omega | (simp; done) | (simp; omega)) rfl) | (with_reducible refine BlkG.drew ?_) | (with_reducible refine BlkG.drewN ?_) | (with_reducible refine BlkG.set ?_) | (with_reducible refine BlkG.far (by first | omega | (simp; done) | (simp; omega)) ?_) | (with_reducible refine BlkG.alloc ?_) | (with_reducible refine BlkG.bel (by with_reducible assumption) (by first | omega | (simp; done) | (simp; omega)) ?_)))), (by repeat (first | with_reducible exact Below.refl _ _ | (with_reducible refine Below.alloc ?_ (by first | omega | (simp; done) | (simp; omega)) _) | (with_reducible refine Below.setCell ?_ (by first | omega | (simp; done) | (simp; omega)) _) | (with_reducible refine Below.drew ?_) | (with_reducible refine below_drewN ?_ _) | (with_reducible assumption) | (with_reducible refine bel_step (by with_reducible assumption) ?_ (by first | omega | (simp; done) | (simp; omega)))))⟩
    · replace CRM := Lib.hid CRM
      replace hm0 := Lib.hid hm0
      replace hm1 := Lib.hid hm1
      clear HMe
      go_wp2_with fail
      refine (CRM.out _).mono ?_
      rintro e w20 ⟨rfl, hb20⟩
      have ba20 : Blk w20 (w.heap.size) 23 #[.int .i64 a, .int .i64 b] := (by refine BlkG.start ?_; (repeat (first | ((with_reducible apply BlkG.done); (with_reducible assumption); exact rfl) | (with_reducible exact BlkG.newAt (by first | (with_reducible rfl) | omega | (simp; done) | (simp; omega)) rfl) | (with_reducible refine BlkG.drew ?_) | (with_reducible refine BlkG.drewN ?_) | (with_reducible refine BlkG.set ?_) | (with_reducible refine BlkG.far (by first | omega | (simp; done) | (simp; omega)) ?_) | (with_reducible refine BlkG.alloc ?_) | (with_reducible refine BlkG.bel (by with_reducible assumption) (by first | omega | (simp; done) | (simp; omega)) ?_))))
      have ca20_0 : w20.cell? ⟨w.heap.size, 0, none⟩ = some (.int .i64 a) := ba20.cell 0
      have fa20_0 : w20.frozen? ⟨w.heap.size, 0, none⟩ = false := ba20.fz 0
      have ca20_1 : w20.cell? ⟨w.heap.size, 1, none⟩ = some (.int .i64 b) := ba20.cell 1
      have fa20_1 : w20.frozen? ⟨w.heap.size, 1, none⟩ = false := ba20.fz 1
      have la20 : w.heap.size < w20.heap.size := ba20.lt
      have bb20 : Blk w20 (w.heap.size + 1) 23 #[.int .i64 c, .int .i64 d] := (by refine BlkG.start ?_; (repeat (first | ((with_reducible apply BlkG.done); (with_reducible assumption); exact rfl) | (with_reducible exact BlkG.newAt (by first | (with_reducible rfl) | omega | (simp; done) | (simp; omega)) rfl) | (with_reducible refine BlkG.drew ?_) | (with_reducible refine BlkG.drewN ?_) | (with_reducible refine BlkG.set ?_) | (with_reducible refine BlkG.far (by first | omega | (simp; done) | (simp; omega)) ?_) | (with_reducible refine BlkG.alloc ?_) | (with_reducible refine BlkG.bel (by with_reducible assumption) (by first | omega | (simp; done) | (simp; omega)) ?_))))
      have cb20_0 : w20.cell? ⟨w.heap.size + 1, 0, none⟩ = some (.int .i64 c) := bb20.cell 0
      have fb20_0 : w20.frozen? ⟨w.heap.size + 1, 0, none⟩ = false := bb20.fz 0
      have cb20_1 : w20.cell? ⟨w.heap.size + 1, 1, none⟩ = some (.int .i64 d) := bb20.cell 1
      have fb20_1 : w20.frozen? ⟨w.heap.size + 1, 1, none⟩ = false := bb20.fz 1
      have lb20 : w.heap.size + 1 < w20.heap.size := bb20.lt
      have bx20 : Blk w20 (w6.heap.size) 23 #[.int .i64 H1, .int .i64 H2] := (by refine BlkG.start ?_; (repeat (first | ((with_reducible apply BlkG.done); (with_reducible assumption); exact rfl) | (with_reducible exact BlkG.newAt (by first | (with_reducible rfl) | omega | (simp; done) | (simp; omega)) rfl) | (with_reducible refine BlkG.drew ?_) | (with_reducible refine BlkG.drewN ?_) | (with_reducible refine BlkG.set ?_) | (with_reducible refine BlkG.far (by first | omega | (simp; done) | (simp; omega)) ?_) | (with_reducible refine BlkG.alloc ?_) | (with_reducible refine BlkG.bel (by with_reducible assumption) (by first | omega | (simp; done) | (simp; omega)) ?_))))
      have cx20_0 : w20.cell? ⟨w6.heap.size, 0, none⟩ = some (.int .i64 H1) := bx20.cell 0
      have fx20_0 : w20.frozen? ⟨w6.heap.size, 0, none⟩ = false := bx20.fz 0
      have cx20_1 : w20.cell? ⟨w6.heap.size, 1, none⟩ = some (.int .i64 H2) := bx20.cell 1
      have fx20_1 : w20.frozen? ⟨w6.heap.size, 1, none⟩ = false := bx20.fz 1
      have lx20 : w6.heap.size < w20.heap.size := bx20.lt
      have bs20 : Blk w20 (gh + 1) 23 #[.int .i64 0, .int .i64 0] := (by refine BlkG.start ?_; (repeat (first | ((with_reducible apply BlkG.done); (with_reducible assumption); exact rfl) | (with_reducible exact BlkG.newAt (by first | (with_reducible rfl) | omega | (simp; done) | (simp; omega)) rfl) | (with_reducible refine BlkG.drew ?_) | (with_reducible refine BlkG.drewN ?_) | (with_reducible refine BlkG.set ?_) | (with_reducible refine BlkG.far (by first | omega | (simp; done) | (simp; omega)) ?_) | (with_reducible refine BlkG.alloc ?_) | (with_reducible refine BlkG.bel (by with_reducible assumption) (by first | omega | (simp; done) | (simp; omega)) ?_))))
      have cs20_0 : w20.cell? ⟨gh + 1, 0, none⟩ = some (.int .i64 0) := bs20.cell 0
      have fs20_0 : w20.frozen? ⟨gh + 1, 0, none⟩ = false := bs20.fz 0
      have cs20_1 : w20.cell? ⟨gh + 1, 1, none⟩ = some (.int .i64 0) := bs20.cell 1
      have fs20_1 : w20.frozen? ⟨gh + 1, 1, none⟩ = false := bs20.fz 1
      have ls20 : gh + 1 < w20.heap.size := bs20.lt
      have bm20 : Blk w20 (gh + 2) 23 #[.int .i64 0, .int .i64 0] := (by refine BlkG.start ?_; (repeat (first | ((with_reducible apply BlkG.done); (with_reducible assumption); exact rfl) | (with_reducible exact BlkG.newAt (by first | (with_reducible rfl) | omega | (simp; done) | (simp; omega)) rfl) | (with_reducible refine BlkG.drew ?_) | (with_reducible refine BlkG.drewN ?_) | (with_reducible refine BlkG.set ?_) | (with_reducible refine BlkG.far (by first | omega | (simp; done) | (simp; omega)) ?_) | (with_reducible refine BlkG.alloc ?_) | (with_reducible refine BlkG.bel (by with_reducible assumption) (by first | omega | (simp; done) | (simp; omega)) ?_))))
      have cm20_0 : w20.cell? ⟨gh + 2, 0, none⟩ = some (.int .i64 0) := bm20.cell 0
      have fm20_0 : w20.frozen? ⟨gh + 2, 0, none⟩ = false := bm20.fz 0
      have cm20_1 : w20.cell? ⟨gh + 2, 1, none⟩ = some (.int .i64 0) := bm20.cell 1
      have fm20_1 : w20.frozen? ⟨gh + 2, 1, none⟩ = false := bm20.fz 1
      have lm20 : gh + 2 < w20.heap.size := bm20.lt
      cases com
      · obtain ⟨rfl, rfl, rfl⟩ := hm0.out rfl
        go_wp2_with fail
        go_meet
        case rel => exact ⟨rfl, (by refine BlkG.start ?_; (repeat (first | ((with_reducible apply BlkG.done); (with_reducible assumption); exact rfl) | (with_reducible exact BlkG.newAt (by first | (with_reducible rfl) | omega | (simp; done) | (simp; omega)) rfl) | (with_reducible refine BlkG.drew ?_) | (with_reducible refine BlkG.drewN ?_) | (with_reducible refine BlkG.set ?_) | (with_reducible refine BlkG.far (by first | omega | (simp; done) | (simp; omega)) ?_) | (with_reducible refine BlkG.alloc ?_) | (with_reducible refine BlkG.bel (by with_reducible assumption) (by first | omega | (simp; done) | (simp; omega)) ?_)))), (by refine BlkG.start ?_; (repeat (first | ((with_reducible apply BlkG.done); (with_reducible assumption); exact rfl) | (with_reducible exact BlkG.newAt (by first | (with_reducible rfl) | omega | (simp; done) | (simp; omega)) rfl) | (with_reducible refine BlkG.drew ?_) | (with_reducible refine BlkG.drewN ?_) | (with_reducible refine BlkG.set ?_) | (with_reducible refine BlkG.far (by first | omega | (simp; done) | (simp; omega)) ?_) | (with_reducible refine BlkG.alloc ?_) | (with_reducible refine BlkG.bel (by with_reducible assumption) (by first | omega | (simp; done) | (simp; omega)) ?_)))), (by refine BlkG.start ?_; (repeat (first | ((with_reducible apply BlkG.done); (with_reducible assumption); exact rfl) | (with_reducible exact BlkG.newAt (by first | (with_reducible rfl) | omega | (simp; done) | (simp; omega)) rfl) | (with_reducible refine BlkG.drew ?_) | (with_reducible refine BlkG.drewN ?_) | (with_reducible refine BlkG.set ?_) | (with_reducible refine BlkG.far (by first | omega | (simp; done) | (simp; omega)) ?_) | (with_reducible refine BlkG.alloc ?_) | (with_reducible refine BlkG.bel (by with_reducible assumption) (by first | omega | (simp; done) | (simp; omega)) ?_)))), (by refine BlkG.start ?_; (repeat (first | ((with_reducible apply BlkG.done); (with_reducible assumption); exact rfl) | (with_reducible exact BlkG.newAt (by first | (with_reducible rfl) | omega | (simp; done) | (simp; omega)) rfl) | (with_reducible refine BlkG.drew ?_) | (with_reducible refine BlkG.drewN ?_) | (with_reducible refine BlkG.set ?_) | (with_reducible refine BlkG.far (by first | omega | (simp; done) | (simp; omega)) ?_) | (with_reducible refine BlkG.alloc ?_) | (with_reducible refine BlkG.bel (by with_reducible assumption) (by first | omega | (simp; done) | (simp; omega)) ?_)))), (by refine BlkG.start ?_; (repeat (first | ((with_reducible apply BlkG.done); (with_reducible assumption); exact rfl) | (with_reducible exact BlkG.newAt (by first | (with_reducible rfl) | omega | (simp; done) | (simp; omega)) rfl) | (with_reducible refine BlkG.drew ?_) | (with_reducible refine BlkG.drewN ?_) | (with_reducible refine BlkG.set ?_) | (with_reducible refine BlkG.far (by first | omega | (simp; done) | (simp; omega)) ?_) | (with_reducible refine BlkG.alloc ?_) | (with_reducible refine BlkG.bel (by with_reducible assumption) (by first | omega | (simp; done) | (simp; omega)) ?_)))), (by repeat (first | with_reducible exact Below.refl _ _ | (with_reducible refine Below.alloc ?_ (by first | omega | (simp; done) | (simp; omega)) _) | (with_reducible refine Below.setCell ?_ (by first | omega | (simp; done) | (simp; omega)) _) | (with_reducible refine Below.drew ?_) | (with_reducible refine below_drewN ?_ _) | (with_reducible assumption) | (with_reducible refine bel_step (by with_reducible assumption) ?_ (by first | omega | (simp; done) | (simp; omega)))))⟩
      · obtain ⟨rfl, rfl, rfl⟩ := hm1.out rfl
        go_wp2_with fail
        go_meet
        case rel => exact ⟨rfl, (by refine BlkG.start ?_; (repeat (first | ((with_reducible apply BlkG.done); (with_reducible assumption); exact rfl) | (with_reducible exact BlkG.newAt (by first | (with_reducible rfl) | omega | (simp; done) | (simp; omega)) rfl) | (with_reducible refine BlkG.drew ?_) | (with_reducible refine BlkG.drewN ?_) | (with_reducible refine BlkG.set ?_) | (with_reducible refine BlkG.far (by first | omega | (simp; done) | (simp; omega)) ?_) | (with_reducible refine BlkG.alloc ?_) | (with_reducible refine BlkG.bel (by with_reducible assumption) (by first | omega | (simp; done) | (simp; omega)) ?_)))), (by refine BlkG.start ?_; (repeat (first | ((with_reducible apply BlkG.done); (with_reducible assumption); exact rfl) | (with_reducible exact BlkG.newAt (by first | (with_reducible rfl) | omega | (simp; done) | (simp; omega)) rfl) | (with_reducible refine BlkG.drew ?_) | (with_reducible refine BlkG.drewN ?_) | (with_reducible refine BlkG.set ?_) | (with_reducible refine BlkG.far (by first | omega | (simp; done) | (simp; omega)) ?_) | (with_reducible refine BlkG.alloc ?_) | (with_reducible refine BlkG.bel (by with_reducible assumption) (by first | omega | (simp; done) | (simp; omega)) ?_)))), (by refine BlkG.start ?_; (repeat (first | ((with_reducible apply BlkG.done); (with_reducible assumption); exact rfl) | (with_reducible exact BlkG.newAt (by first | (with_reducible rfl) | omega | (simp; done) | (simp; omega)) rfl) | (with_reducible refine BlkG.drew ?_) | (with_reducible refine BlkG.drewN ?_) | (with_reducible refine BlkG.set ?_) | (with_reducible refine BlkG.far (by first | omega | (simp; done) | (simp; omega)) ?_) | (with_reducible refine BlkG.alloc ?_) | (with_reducible refine BlkG.bel (by with_reducible assumption) (by first | omega | (simp; done) | (simp; omega)) ?_)))), (by refine BlkG.start ?_; (repeat (first | ((with_reducible apply BlkG.done); (with_reducible assumption); exact rfl) | (with_reducible exact BlkG.newAt (by first | (with_reducible rfl) | omega | (simp; done) | (simp; omega)) rfl) | (with_reducible refine BlkG.drew ?_) | (with_reducible refine BlkG.drewN ?_) | (with_reducible refine BlkG.set ?_) | (with_reducible refine BlkG.far (by first | omega | (simp; done) | (simp; omega)) ?_) | (with_reducible refine BlkG.alloc ?_) | (with_reducible refine BlkG.bel (by with_reducible assumption) (by first | omega | (simp; done) | (simp; omega)) ?_)))), (by refine BlkG.start ?_; (repeat (first | ((with_reducible apply BlkG.done); (with_reducible assumption); exact rfl) | (with_reducible exact BlkG.newAt (by first | (with_reducible rfl) | omega | (simp; done) | (simp; omega)) rfl) | (with_reducible refine BlkG.drew ?_) | (with_reducible refine BlkG.drewN ?_) | (with_reducible refine BlkG.set ?_) | (with_reducible refine BlkG.far (by first | omega | (simp; done) | (simp; omega)) ?_) | (with_reducible refine BlkG.alloc ?_) | (with_reducible refine BlkG.bel (by with_reducible assumption) (by first | omega | (simp; done) | (simp; omega)) ?_)))), (by repeat (first | with_reducible exact Below.refl _ _ | (with_reducible refine Below.alloc ?_ (by first | omega | (simp; done) | (simp; omega)) _) | (with_reducible refine Below.setCell ?_ (by first | omega | (simp; done) | (simp; omega)) _) | (with_reducible refine Below.drew ?_) | (with_reducible refine below_drewN ?_ _) | (with_reducible assumption) | (with_reducible refine bel_step (by with_reducible assumption) ?_ (by first | omega | (simp; done) | (simp; omega)))))⟩
  case rest =>
  obtain ⟨rfl, hka, hkb, hkx, hks, hkm, hB⟩ := hcut
  obtain ⟨w20, hw20⟩ : ∃ x : World, x = wc := ⟨_, rfl⟩
  subst hw20
  have ba20 : Blk w20 (w.heap.size) 23 #[.int .i64 a, .int .i64 b] := hka
  have ca20_0 : w20.cell? ⟨w.heap.size, 0, none⟩ = some (.int .i64 a) := ba20.cell 0
  have fa20_0 : w20.frozen? ⟨w.heap.size, 0, none⟩ = false := ba20.fz 0
  have ca20_1 : w20.cell? ⟨w.heap.size, 1, none⟩ = some (.int .i64 b) := ba20.cell 1
  have fa20_1 : w20.frozen? ⟨w.heap.size, 1, none⟩ = false := ba20.fz 1
  have la20 : w.heap.size < w20.heap.size := ba20.lt
  have bb20 : Blk w20 (w.heap.size + 1) 23 #[.int .i64 c, .int .i64 d] := hkb
  have cb20_0 : w20.cell? ⟨w.heap.size + 1, 0, none⟩ = some (.int .i64 c) := bb20.cell 0
  have fb20_0 : w20.frozen? ⟨w.heap.size + 1, 0, none⟩ = false := bb20.fz 0
  have cb20_1 : w20.cell? ⟨w.heap.size + 1, 1, none⟩ = some (.int .i64 d) := bb20.cell 1
  have fb20_1 : w20.frozen? ⟨w.heap.size + 1, 1, none⟩ = false := bb20.fz 1
  have lb20 : w.heap.size + 1 < w20.heap.size := bb20.lt
  have bx20 : Blk w20 (w6.heap.size) 23 #[.int .i64 H1, .int .i64 H2] := hkx
  have cx20_0 : w20.cell? ⟨w6.heap.size, 0, none⟩ = some (.int .i64 H1) := bx20.cell 0
  have fx20_0 : w20.frozen? ⟨w6.heap.size, 0, none⟩ = false := bx20.fz 0
  have cx20_1 : w20.cell? ⟨w6.heap.size, 1, none⟩ = some (.int .i64 H2) := bx20.cell 1
  have fx20_1 : w20.frozen? ⟨w6.heap.size, 1, none⟩ = false := bx20.fz 1
  have lx20 : w6.heap.size < w20.heap.size := bx20.lt
  have bs20 : Blk w20 (gh + 1) 23 #[.int .i64 0, .int .i64 0] := hks
  have cs20_0 : w20.cell? ⟨gh + 1, 0, none⟩ = some (.int .i64 0) := bs20.cell 0
  have fs20_0 : w20.frozen? ⟨gh + 1, 0, none⟩ = false := bs20.fz 0
  have cs20_1 : w20.cell? ⟨gh + 1, 1, none⟩ = some (.int .i64 0) := bs20.cell 1
  have fs20_1 : w20.frozen? ⟨gh + 1, 1, none⟩ = false := bs20.fz 1
  have ls20 : gh + 1 < w20.heap.size := bs20.lt
  have bm20 : Blk w20 (gh + 2) 23 #[.int .i64 M1, .int .i64 M2] := hkm
  have cm20_0 : w20.cell? ⟨gh + 2, 0, none⟩ = some (.int .i64 M1) := bm20.cell 0
  have fm20_0 : w20.frozen? ⟨gh + 2, 0, none⟩ = false := bm20.fz 0
  have cm20_1 : w20.cell? ⟨gh + 2, 1, none⟩ = some (.int .i64 M2) := bm20.cell 1
  have fm20_1 : w20.frozen? ⟨gh + 2, 1, none⟩ = false := bm20.fz 1
  have lm20 : gh + 2 < w20.heap.size := bm20.lt
  have HB20 : Below w.heap.size w w20 := hB
  have HZ20 := HB20.size
  clear hB hka hkb hkx hks hkm
  clear HB19 HZ19
  clear ba19 la19 ca19_0 ca19_1 fa19_0 fa19_1
  clear bb19 lb19 cb19_0 cb19_1 fb19_0 fb19_1
  clear bx19 lx19 cx19_0 cx19_1 fx19_0 fx19_1
  clear bs19 ls19 cs19_0 cs19_1 fs19_0 fs19_1
  clear bm19 lm19 cm19_0 cm19_1 fm19_0 fm19_1
  clear bh19 lh19 ch19_0 ch19_1 fh19_0 fh19_1
  go_wp2_with fail
  refine (CMe.out _).mono ?_
  rintro e w21 ⟨rfl, hb21⟩
  have hz21 := hb21.size
  (try simp at hz21)
  have ba21 : Blk w21 (w.heap.size) 23 #[.int .i64 a, .int .i64 b] := (by refine BlkG.start ?_; (repeat (first | ((with_reducible apply BlkG.done); (with_reducible assumption); exact rfl) | (with_reducible exact BlkG.newAt (by first | (with_reducible rfl) | omega | (simp; done) | (simp; omega)) rfl) | (with_reducible refine BlkG.drew ?_) | (with_reducible refine BlkG.drewN ?_) | (with_reducible refine BlkG.set ?_) | (with_reducible refine BlkG.far (by first | omega | (simp; done) | (simp; omega)) ?_) | (with_reducible refine BlkG.alloc ?_) | (with_reducible refine BlkG.bel (by with_reducible assumption) (by first | omega | (simp; done) | (simp; omega)) ?_))))
  have ca21_0 : w21.cell? ⟨w.heap.size, 0, none⟩ = some (.int .i64 a) := ba21.cell 0
  have fa21_0 : w21.frozen? ⟨w.heap.size, 0, none⟩ = false := ba21.fz 0
  have ca21_1 : w21.cell? ⟨w.heap.size, 1, none⟩ = some (.int .i64 b) := ba21.cell 1
  have fa21_1 : w21.frozen? ⟨w.heap.size, 1, none⟩ = false := ba21.fz 1
  have la21 : w.heap.size < w21.heap.size := ba21.lt
  have bb21 : Blk w21 (w.heap.size + 1) 23 #[.int .i64 c, .int .i64 d] := (by refine BlkG.start ?_; (repeat (first | ((with_reducible apply BlkG.done); (with_reducible assumption); exact rfl) | (with_reducible exact BlkG.newAt (by first | (with_reducible rfl) | omega | (simp; done) | (simp; omega)) rfl) | (with_reducible refine BlkG.drew ?_) | (with_reducible refine BlkG.drewN ?_) | (with_reducible refine BlkG.set ?_) | (with_reducible refine BlkG.far (by first | omega | (simp; done) | (simp; omega)) ?_) | (with_reducible refine BlkG.alloc ?_) | (with_reducible refine BlkG.bel (by with_reducible assumption) (by first | omega | (simp; done) | (simp; omega)) ?_))))
  have cb21_0 : w21.cell? ⟨w.heap.size + 1, 0, none⟩ = some (.int .i64 c) := bb21.cell 0
  have fb21_0 : w21.frozen? ⟨w.heap.size + 1, 0, none⟩ = false := bb21.fz 0
  have cb21_1 : w21.cell? ⟨w.heap.size + 1, 1, none⟩ = some (.int .i64 d) := bb21.cell 1
  have fb21_1 : w21.frozen? ⟨w.heap.size + 1, 1, none⟩ = false := bb21.fz 1
  have lb21 : w.heap.size + 1 < w21.heap.size := bb21.lt
  have bx21 : Blk w21 (w6.heap.size) 23 #[.int .i64 H1, .int .i64 H2] := (by refine BlkG.start ?_; (repeat (first | ((with_reducible apply BlkG.done); (with_reducible assumption); exact rfl) | (with_reducible exact BlkG.newAt (by first | (with_reducible rfl) | omega | (simp; done) | (simp; omega)) rfl) | (with_reducible refine BlkG.drew ?_) | (with_reducible refine BlkG.drewN ?_) | (with_reducible refine BlkG.set ?_) | (with_reducible refine BlkG.far (by first | omega | (simp; done) | (simp; omega)) ?_) | (with_reducible refine BlkG.alloc ?_) | (with_reducible refine BlkG.bel (by with_reducible assumption) (by first | omega | (simp; done) | (simp; omega)) ?_))))
  have cx21_0 : w21.cell? ⟨w6.heap.size, 0, none⟩ = some (.int .i64 H1) := bx21.cell 0
  have fx21_0 : w21.frozen? ⟨w6.heap.size, 0, none⟩ = false := bx21.fz 0
  have cx21_1 : w21.cell? ⟨w6.heap.size, 1, none⟩ = some (.int .i64 H2) := bx21.cell 1
  have fx21_1 : w21.frozen? ⟨w6.heap.size, 1, none⟩ = false := bx21.fz 1
  have lx21 : w6.heap.size < w21.heap.size := bx21.lt
  have bs21 : Blk w21 (gh + 1) 23 #[.int .i64 0, .int .i64 0] := (by refine BlkG.start ?_; (repeat (first | ((with_reducible apply BlkG.done); (with_reducible assumption); exact rfl) | (with_reducible exact BlkG.newAt (by first | (with_reducible rfl) | omega | (simp; done) | (simp; omega)) rfl) | (with_reducible refine BlkG.drew ?_) | (with_reducible refine BlkG.drewN ?_) | (with_reducible refine BlkG.set ?_) | (with_reducible refine BlkG.far (by first | omega | (simp; done) | (simp; omega)) ?_) | (with_reducible refine BlkG.alloc ?_) | (with_reducible refine BlkG.bel (by with_reducible assumption) (by first | omega | (simp; done) | (simp; omega)) ?_))))
  have cs21_0 : w21.cell? ⟨gh + 1, 0, none⟩ = some (.int .i64 0) := bs21.cell 0
  have fs21_0 : w21.frozen? ⟨gh + 1, 0, none⟩ = false := bs21.fz 0
  have cs21_1 : w21.cell? ⟨gh + 1, 1, none⟩ = some (.int .i64 0) := bs21.cell 1
  have fs21_1 : w21.frozen? ⟨gh + 1, 1, none⟩ = false := bs21.fz 1
  have ls21 : gh + 1 < w21.heap.size := bs21.lt
  have bm21 : Blk w21 (gh + 2) 23 #[.int .i64 M1, .int .i64 M2] := (by refine BlkG.start ?_; (repeat (first | ((with_reducible apply BlkG.done); (with_reducible assumption); exact rfl) | (with_reducible exact BlkG.newAt (by first | (with_reducible rfl) | omega | (simp; done) | (simp; omega)) rfl) | (with_reducible refine BlkG.drew ?_) | (with_reducible refine BlkG.drewN ?_) | (with_reducible refine BlkG.set ?_) | (with_reducible refine BlkG.far (by first | omega | (simp; done) | (simp; omega)) ?_) | (with_reducible refine BlkG.alloc ?_) | (with_reducible refine BlkG.bel (by with_reducible assumption) (by first | omega | (simp; done) | (simp; omega)) ?_))))
  have cm21_0 : w21.cell? ⟨gh + 2, 0, none⟩ = some (.int .i64 M1) := bm21.cell 0
  have fm21_0 : w21.frozen? ⟨gh + 2, 0, none⟩ = false := bm21.fz 0
  have cm21_1 : w21.cell? ⟨gh + 2, 1, none⟩ = some (.int .i64 M2) := bm21.cell 1
  have fm21_1 : w21.frozen? ⟨gh + 2, 1, none⟩ = false := bm21.fz 1
  have lm21 : gh + 2 < w21.heap.size := bm21.lt
  have HB21 : Below w.heap.size w w21 := (by repeat (first | with_reducible exact Below.refl _ _ | (with_reducible refine Below.alloc ?_ (by first | omega | (simp; done) | (simp; omega)) _) | (with_reducible refine Below.setCell ?_ (by first | omega | (simp; done) | (simp; omega)) _) | (with_reducible refine Below.drew ?_) | (with_reducible refine below_drewN ?_ _) | (with_reducible assumption) | (with_reducible refine bel_step (by with_reducible assumption) ?_ (by first | omega | (simp; done) | (simp; omega)))))
  have HZ21 := HB21.size
  clear hb21 hz21 HB20 HZ20 ba20 la20 ca20_0 fa20_0 ca20_1 fa20_1 bb20 lb20 cb20_0 fb20_0 cb20_1 fb20_1 bx20 lx20 cx20_0 fx20_0 cx20_1 fx20_1 bs20 ls20 cs20_0 fs20_0 cs20_1 fs20_1 bm20 lm20 cm20_0 fm20_0 cm20_1 fm20_1 
  go_wp2_with fail
  refine (CE.out f2 _ (by repeat (first | with_reducible exact Below.refl _ _ | (with_reducible refine Below.alloc ?_ (by first | omega | (simp; done) | (simp; omega)) _) | (with_reducible refine Below.setCell ?_ (by first | omega | (simp; done) | (simp; omega)) _) | (with_reducible refine Below.drew ?_) | (with_reducible refine below_drewN ?_ _) | (with_reducible assumption) | (with_reducible refine bel_step (by with_reducible assumption) ?_ (by first | omega | (simp; done) | (simp; omega)))))).mono ?_
  rintro e w22 ⟨rfl, hb22⟩
  have hz22 := hb22.size
  (try simp at hz22)
  have ba22 : Blk w22 (w.heap.size) 23 #[.int .i64 a, .int .i64 b] := (by refine BlkG.start ?_; (repeat (first | ((with_reducible apply BlkG.done); (with_reducible assumption); exact rfl) | (with_reducible exact BlkG.newAt (by first | (with_reducible rfl) | omega | (simp; done) | (simp; omega)) rfl) | (with_reducible refine BlkG.drew ?_) | (with_reducible refine BlkG.drewN ?_) | (with_reducible refine BlkG.set ?_) | (with_reducible refine BlkG.far (by first | omega | (simp; done) | (simp; omega)) ?_) | (with_reducible refine BlkG.alloc ?_) | (with_reducible refine BlkG.bel (by with_reducible assumption) (by first | omega | (simp; done) | (simp; omega)) ?_))))
  have ca22_0 : w22.cell? ⟨w.heap.size, 0, none⟩ = some (.int .i64 a) := ba22.cell 0
  have fa22_0 : w22.frozen? ⟨w.heap.size, 0, none⟩ = false := ba22.fz 0
  have ca22_1 : w22.cell? ⟨w.heap.size, 1, none⟩ = some (.int .i64 b) := ba22.cell 1
  have fa22_1 : w22.frozen? ⟨w.heap.size, 1, none⟩ = false := ba22.fz 1
  have la22 : w.heap.size < w22.heap.size := ba22.lt
  have bb22 : Blk w22 (w.heap.size + 1) 23 #[.int .i64 c, .int .i64 d] := (by refine BlkG.start ?_; (repeat (first | ((with_reducible apply BlkG.done); (with_reducible assumption); exact rfl) | (with_reducible exact BlkG.newAt (by first | (with_reducible rfl) | omega | (simp; done) | (simp; omega)) rfl) | (with_reducible refine BlkG.drew ?_) | (with_reducible refine BlkG.drewN ?_) | (with_reducible refine BlkG.set ?_) | (with_reducible refine BlkG.far (by first | omega | (simp; done) | (simp; omega)) ?_) | (with_reducible refine BlkG.alloc ?_) | (with_reducible refine BlkG.bel (by with_reducible assumption) (by first | omega | (simp; done) | (simp; omega)) ?_))))
  have cb22_0 : w22.cell? ⟨w.heap.size + 1, 0, none⟩ = some (.int .i64 c) := bb22.cell 0
  have fb22_0 : w22.frozen? ⟨w.heap.size + 1, 0, none⟩ = false := bb22.fz 0
  have cb22_1 : w22.cell? ⟨w.heap.size + 1, 1, none⟩ = some (.int .i64 d) := bb22.cell 1
  have fb22_1 : w22.frozen? ⟨w.heap.size + 1, 1, none⟩ = false := bb22.fz 1
  have lb22 : w.heap.size + 1 < w22.heap.size := bb22.lt
  have bx22 : Blk w22 (w6.heap.size) 23 #[.int .i64 M1, .int .i64 M2] := (by refine BlkG.start ?_; (repeat (first | ((with_reducible apply BlkG.done); (with_reducible assumption); exact rfl) | (with_reducible exact BlkG.newAt (by first | (with_reducible rfl) | omega | (simp; done) | (simp; omega)) rfl) | (with_reducible refine BlkG.drew ?_) | (with_reducible refine BlkG.drewN ?_) | (with_reducible refine BlkG.set ?_) | (with_reducible refine BlkG.far (by first | omega | (simp; done) | (simp; omega)) ?_) | (with_reducible refine BlkG.alloc ?_) | (with_reducible refine BlkG.bel (by with_reducible assumption) (by first | omega | (simp; done) | (simp; omega)) ?_))))
  have cx22_0 : w22.cell? ⟨w6.heap.size, 0, none⟩ = some (.int .i64 M1) := bx22.cell 0
  have fx22_0 : w22.frozen? ⟨w6.heap.size, 0, none⟩ = false := bx22.fz 0
  have cx22_1 : w22.cell? ⟨w6.heap.size, 1, none⟩ = some (.int .i64 M2) := bx22.cell 1
  have fx22_1 : w22.frozen? ⟨w6.heap.size, 1, none⟩ = false := bx22.fz 1
  have lx22 : w6.heap.size < w22.heap.size := bx22.lt
  have bs22 : Blk w22 (gh + 1) 23 #[.int .i64 0, .int .i64 0] := (by refine BlkG.start ?_; (repeat (first | ((with_reducible apply BlkG.done); (with_reducible assumption); exact rfl) | (with_reducible exact BlkG.newAt (by first | (with_reducible rfl) | omega | (simp; done) | (simp; omega)) rfl) | (with_reducible refine BlkG.drew ?_) | (with_reducible refine BlkG.drewN ?_) | (with_reducible refine BlkG.set ?_) | (with_reducible refine BlkG.far (by first | omega | (simp; done) | (simp; omega)) ?_) | (with_reducible refine BlkG.alloc ?_) | (with_reducible refine BlkG.bel (by with_reducible assumption) (by first | omega | (simp; done) | (simp; omega)) ?_))))
  have cs22_0 : w22.cell? ⟨gh + 1, 0, none⟩ = some (.int .i64 0) := bs22.cell 0
  have fs22_0 : w22.frozen? ⟨gh + 1, 0, none⟩ = false := bs22.fz 0
  have cs22_1 : w22.cell? ⟨gh + 1, 1, none⟩ = some (.int .i64 0) := bs22.cell 1
  have fs22_1 : w22.frozen? ⟨gh + 1, 1, none⟩ = false := bs22.fz 1
  have ls22 : gh + 1 < w22.heap.size := bs22.lt
  have bm22 : Blk w22 (gh + 2) 23 #[.int .i64 M1, .int .i64 M2] := (by refine BlkG.start ?_; (repeat (first | ((with_reducible apply BlkG.done); (with_reducible assumption); exact rfl) | (with_reducible exact BlkG.newAt (by first | (with_reducible rfl) | omega | (simp; done) | (simp; omega)) rfl) | (with_reducible refine BlkG.drew ?_) | (with_reducible refine BlkG.drewN ?_) | (with_reducible refine BlkG.set ?_) | (with_reducible refine BlkG.far (by first | omega | (simp; done) | (simp; omega)) ?_) | (with_reducible refine BlkG.alloc ?_) | (with_reducible refine BlkG.bel (by with_reducible assumption) (by first | omega | (simp; done) | (simp; omega)) ?_))))
  have cm22_0 : w22.cell? ⟨gh + 2, 0, none⟩ = some (.int .i64 M1) := bm22.cell 0
  have fm22_0 : w22.frozen? ⟨gh + 2, 0, none⟩ = false := bm22.fz 0
  have cm22_1 : w22.cell? ⟨gh + 2, 1, none⟩ = some (.int .i64 M2) := bm22.cell 1
  have fm22_1 : w22.frozen? ⟨gh + 2, 1, none⟩ = false := bm22.fz 1
  have lm22 : gh + 2 < w22.heap.size := bm22.lt
  have HB22 : Below w.heap.size w w22 := (by repeat (first | with_reducible exact Below.refl _ _ | (with_reducible refine Below.alloc ?_ (by first | omega | (simp; done) | (simp; omega)) _) | (with_reducible refine Below.setCell ?_ (by first | omega | (simp; done) | (simp; omega)) _) | (with_reducible refine Below.drew ?_) | (with_reducible refine below_drewN ?_ _) | (with_reducible assumption) | (with_reducible refine bel_step (by with_reducible assumption) ?_ (by first | omega | (simp; done) | (simp; omega)))))
  have HZ22 := HB22.size
  clear hb22 hz22 HB21 HZ21 ba21 la21 ca21_0 fa21_0 ca21_1 fa21_1 bb21 lb21 cb21_0 fb21_0 cb21_1 fb21_1 bx21 lx21 cx21_0 fx21_0 cx21_1 fx21_1 bs21 ls21 cs21_0 fs21_0 cs21_1 fs21_1 bm21 lm21 cm21_0 fm21_0 cm21_1 fm21_1 
  go_upto_if 230 with fail
  go_cut [11, 34] (fun s _ wx => s = .int .i64 e3 ∧ Blk wx (w.heap.size) 23 #[.int .i64 a, .int .i64 b] ∧ Blk wx (w.heap.size + 1) 23 #[.int .i64 c, .int .i64 d] ∧ Blk wx (w6.heap.size) 23 #[.int .i64 M1, .int .i64 M2] ∧ Blk wx (gh + 1) 23 #[.int .i64 S1, .int .i64 S2] ∧ Below w.heap.size w wx)
  case first =>
    as_aux_lemma =>
    rcases HAd.out with ⟨rfl, rfl, rfl, rfl⟩ | ⟨rfl, wa, wb, _, _, rfl, rfl, ok, CSs, hok0, hok1⟩
    · clear HAd
      go_wp2_with fail
      go_meet
      case rel => exact ⟨rfl, (by refine BlkG.start ?_; (repeat (first | ((with_reducible apply BlkG.done); (with_reducible assumption); exact rfl) | (with_reducible exact BlkG.newAt (by first | (with_reducible rfl) | omega | (simp; done) | (simp; omega)) rfl) | (with_reducible refine BlkG.drew ?_) | (with_reducible refine BlkG.drewN ?_) | (with_reducible refine BlkG.set ?_) | (with_reducible refine BlkG.far (by first | omega | (simp; done) | (simp; omega)) ?_) | (with_reducible refine BlkG.alloc ?_) | (with_reducible refine BlkG.bel (by with_reducible assumption) (by first | omega | (simp; done) | (simp; omega)) ?_)))), (by refine BlkG.start ?_; (repeat (first | ((with_reducible apply BlkG.done); (with_reducible assumption); exact rfl) | (with_reducible exact BlkG.newAt (by first | (with_reducible rfl) | omega | (simp; done) | (simp; omega)) rfl) | (with_reducible refine BlkG.drew ?_) | (with_reducible refine BlkG.drewN ?_) | (with_reducible refine BlkG.set ?_) | (with_reducible refine BlkG.far (by first | omega | (simp; done) | (simp; omega)) ?_) | (with_reducible refine BlkG.alloc ?_) | (with_reducible refine BlkG.bel (by with_reducible assumption) (by first | omega | (simp; done) | (simp; omega)) ?_)))), (by refine BlkG.start ?_; (repeat (first | ((with_reducible apply BlkG.done); (with_reducible assumption); exact rfl) | (with_reducible exact BlkG.newAt (by first | (with_reducible rfl) | omega | (simp; done) | (simp; omega)) rfl) | (with_reducible refine BlkG.drew ?_) | (with_reducible refine BlkG.drewN ?_) | (with_reducible refine BlkG.set ?_) | (with_reducible refine BlkG.far (by first | omega | (simp; done) | (simp; omega)) ?_) | (with_reducible refine BlkG.alloc ?_) | (with_reducible refine BlkG.bel (by with_reducible assumption) (by first | omega | (simp; done) | (simp; omega)) ?_)))), (by refine BlkG.start ?_; (repeat (first | ((with_reducible apply BlkG.done); (with_reducible assumption); exact rfl) | (with_reducible exact BlkG.newAt (by first | (with_reducible rfl) | omega | (simp; done) | (simp; omega)) rfl) | (with_reducible refine BlkG.drew ?_) | (with_reducible refine BlkG.drewN ?_) | (with_reducible refine BlkG.set ?_) | (with_reducible refine BlkG.far (by first | omega | (simp; done) | (simp; omega)) ?_) | (with_reducible refine BlkG.alloc ?_) | (with_reducible refine BlkG.bel (by with_reducible assumption) (by first | omega | (simp; done) | (simp; omega)) ?_)))), (by repeat (first | with_reducible exact Below.refl _ _ | (with_reducible refine Below.alloc ?_ (by first | omega | (simp; done) | (simp; omega)) _) | (with_reducible refine Below.setCell ?_ (by first | omega | (simp; done) | (simp; omega)) _) | (with_reducible refine Below.drew ?_) | (with_reducible refine below_drewN ?_ _) | (with_reducible assumption) | (with_reducible refine bel_step (by with_reducible assumption) ?_ (by first | omega | (simp; done) | (simp; omega)))))⟩
    · replace CSs := Lib.hid CSs
      replace hok0 := Lib.hid hok0
      replace hok1 := Lib.hid hok1
      clear HAd
      go_wp2_with fail
      refine (CSs.out _).mono ?_
      rintro e w23 ⟨rfl, hb23⟩
      have ba23 : Blk w23 (w.heap.size) 23 #[.int .i64 a, .int .i64 b] := (by refine BlkG.start ?_; (repeat (first | ((with_reducible apply BlkG.done); (with_reducible assumption); exact rfl) | (with_reducible exact BlkG.newAt (by first | (with_reducible rfl) | omega | (simp; done) | (simp; omega)) rfl) | (with_reducible refine BlkG.drew ?_) | (with_reducible refine BlkG.drewN ?_) | (with_reducible refine BlkG.set ?_) | (with_reducible refine BlkG.far (by first | omega | (simp; done) | (simp; omega)) ?_) | (with_reducible refine BlkG.alloc ?_) | (with_reducible refine BlkG.bel (by with_reducible assumption) (by first | omega | (simp; done) | (simp; omega)) ?_))))
      have ca23_0 : w23.cell? ⟨w.heap.size, 0, none⟩ = some (.int .i64 a) := ba23.cell 0
      have fa23_0 : w23.frozen? ⟨w.heap.size, 0, none⟩ = false := ba23.fz 0
      have ca23_1 : w23.cell? ⟨w.heap.size, 1, none⟩ = some (.int .i64 b) := ba23.cell 1
      have fa23_1 : w23.frozen? ⟨w.heap.size, 1, none⟩ = false := ba23.fz 1
      have la23 : w.heap.size < w23.heap.size := ba23.lt
      have bb23 : Blk w23 (w.heap.size + 1) 23 #[.int .i64 c, .int .i64 d] := (by refine BlkG.start ?_; (repeat (first | ((with_reducible apply BlkG.done); (with_reducible assumption); exact rfl) | (with_reducible exact BlkG.newAt (by first | (with_reducible rfl) | omega | (simp; done) | (simp; omega)) rfl) | (with_reducible refine BlkG.drew ?_) | (with_reducible refine BlkG.drewN ?_) | (with_reducible refine BlkG.set ?_) | (with_reducible refine BlkG.far (by first | omega | (simp; done) | (simp; omega)) ?_) | (with_reducible refine BlkG.alloc ?_) | (with_reducible refine BlkG.bel (by with_reducible assumption) (by first | omega | (simp; done) | (simp; omega)) ?_))))
      have cb23_0 : w23.cell? ⟨w.heap.size + 1, 0, none⟩ = some (.int .i64 c) := bb23.cell 0
      have fb23_0 : w23.frozen? ⟨w.heap.size + 1, 0, none⟩ = false := bb23.fz 0
      have cb23_1 : w23.cell? ⟨w.heap.size + 1, 1, none⟩ = some (.int .i64 d) := bb23.cell 1
      have fb23_1 : w23.frozen? ⟨w.heap.size + 1, 1, none⟩ = false := bb23.fz 1
      have lb23 : w.heap.size + 1 < w23.heap.size := bb23.lt
      have bx23 : Blk w23 (w6.heap.size) 23 #[.int .i64 M1, .int .i64 M2] := (by refine BlkG.start ?_; (repeat (first | ((with_reducible apply BlkG.done); (with_reducible assumption); exact rfl) | (with_reducible exact BlkG.newAt (by first | (with_reducible rfl) | omega | (simp; done) | (simp; omega)) rfl) | (with_reducible refine BlkG.drew ?_) | (with_reducible refine BlkG.drewN ?_) | (with_reducible refine BlkG.set ?_) | (with_reducible refine BlkG.far (by first | omega | (simp; done) | (simp; omega)) ?_) | (with_reducible refine BlkG.alloc ?_) | (with_reducible refine BlkG.bel (by with_reducible assumption) (by first | omega | (simp; done) | (simp; omega)) ?_))))
      have cx23_0 : w23.cell? ⟨w6.heap.size, 0, none⟩ = some (.int .i64 M1) := bx23.cell 0
      have fx23_0 : w23.frozen? ⟨w6.heap.size, 0, none⟩ = false := bx23.fz 0
      have cx23_1 : w23.cell? ⟨w6.heap.size, 1, none⟩ = some (.int .i64 M2) := bx23.cell 1
      have fx23_1 : w23.frozen? ⟨w6.heap.size, 1, none⟩ = false := bx23.fz 1
      have lx23 : w6.heap.size < w23.heap.size := bx23.lt
      have bs23 : Blk w23 (gh + 1) 23 #[.int .i64 (a + c), .int .i64 (b + d)] := (by refine BlkG.start ?_; (repeat (first | ((with_reducible apply BlkG.done); (with_reducible assumption); exact rfl) | (with_reducible exact BlkG.newAt (by first | (with_reducible rfl) | omega | (simp; done) | (simp; omega)) rfl) | (with_reducible refine BlkG.drew ?_) | (with_reducible refine BlkG.drewN ?_) | (with_reducible refine BlkG.set ?_) | (with_reducible refine BlkG.far (by first | omega | (simp; done) | (simp; omega)) ?_) | (with_reducible refine BlkG.alloc ?_) | (with_reducible refine BlkG.bel (by with_reducible assumption) (by first | omega | (simp; done) | (simp; omega)) ?_))))
      have cs23_0 : w23.cell? ⟨gh + 1, 0, none⟩ = some (.int .i64 (a + c)) := bs23.cell 0
      have fs23_0 : w23.frozen? ⟨gh + 1, 0, none⟩ = false := bs23.fz 0
      have cs23_1 : w23.cell? ⟨gh + 1, 1, none⟩ = some (.int .i64 (b + d)) := bs23.cell 1
      have fs23_1 : w23.frozen? ⟨gh + 1, 1, none⟩ = false := bs23.fz 1
      have ls23 : gh + 1 < w23.heap.size := bs23.lt
      cases ok
      · obtain ⟨rfl, rfl, rfl⟩ := hok0.out rfl
        go_wp2_with fail
        go_meet
        case rel => exact ⟨rfl, (by refine BlkG.start ?_; (repeat (first | ((with_reducible apply BlkG.done); (with_reducible assumption); exact rfl) | (with_reducible exact BlkG.newAt (by first | (with_reducible rfl) | omega | (simp; done) | (simp; omega)) rfl) | (with_reducible refine BlkG.drew ?_) | (with_reducible refine BlkG.drewN ?_) | (with_reducible refine BlkG.set ?_) | (with_reducible refine BlkG.far (by first | omega | (simp; done) | (simp; omega)) ?_) | (with_reducible refine BlkG.alloc ?_) | (with_reducible refine BlkG.bel (by with_reducible assumption) (by first | omega | (simp; done) | (simp; omega)) ?_)))), (by refine BlkG.start ?_; (repeat (first | ((with_reducible apply BlkG.done); (with_reducible assumption); exact rfl) | (with_reducible exact BlkG.newAt (by first | (with_reducible rfl) | omega | (simp; done) | (simp; omega)) rfl) | (with_reducible refine BlkG.drew ?_) | (with_reducible refine BlkG.drewN ?_) | (with_reducible refine BlkG.set ?_) | (with_reducible refine BlkG.far (by first | omega | (simp; done) | (simp; omega)) ?_) | (with_reducible refine BlkG.alloc ?_) | (with_reducible refine BlkG.bel (by with_reducible assumption) (by first | omega | (simp; done) | (simp; omega)) ?_)))), (by refine BlkG.start ?_; (repeat (first | ((with_reducible apply BlkG.done); (with_reducible assumption); exact rfl) | (with_reducible exact BlkG.newAt (by first | (with_reducible rfl) | omega | (simp; done) | (simp; omega)) rfl) | (with_reducible refine BlkG.drew ?_) | (with_reducible refine BlkG.drewN ?_) | (with_reducible refine BlkG.set ?_) | (with_reducible refine BlkG.far (by first | omega | (simp; done) | (simp; omega)) ?_) | (with_reducible refine BlkG.alloc ?_) | (with_reducible refine BlkG.bel (by with_reducible assumption) (by first | omega | (simp; done) | (simp; omega)) ?_)))), (by refine BlkG.start ?_; (repeat (first | ((with_reducible apply BlkG.done); (with_reducible assumption); exact rfl) | (with_reducible exact BlkG.newAt (by first | (with_reducible rfl) | omega | (simp; done) | (simp; omega)) rfl) | (with_reducible refine BlkG.drew ?_) | (with_reducible refine BlkG.drewN ?_) | (with_reducible refine BlkG.set ?_) | (with_reducible refine BlkG.far (by first | omega | (simp; done) | (simp; omega)) ?_) | (with_reducible refine BlkG.alloc ?_) | (with_reducible refine BlkG.bel (by with_reducible assumption) (by first | omega | (simp; done) | (simp; omega)) ?_)))), (by repeat (first | with_reducible exact Below.refl _ _ | (with_reducible refine Below.alloc ?_ (by first | omega | (simp; done) | (simp; omega)) _) | (with_reducible refine Below.setCell ?_ (by first | omega | (simp; done) | (simp; omega)) _) | (with_reducible refine Below.drew ?_) | (with_reducible refine below_drewN ?_ _) | (with_reducible assumption) | (with_reducible refine bel_step (by with_reducible assumption) ?_ (by first | omega | (simp; done) | (simp; omega)))))⟩
      · obtain ⟨rfl, rfl, rfl⟩ := hok1.out rfl
        go_wp2_with fail
        go_meet
        case rel => exact ⟨rfl, (by refine BlkG.start ?_; (repeat (first | ((with_reducible apply BlkG.done); (with_reducible assumption); exact rfl) | (with_reducible exact BlkG.newAt (by first | (with_reducible rfl) | omega | (simp; done) | (simp; omega)) rfl) | (with_reducible refine BlkG.drew ?_) | (with_reducible refine BlkG.drewN ?_) | (with_reducible refine BlkG.set ?_) | (with_reducible refine BlkG.far (by first | omega | (simp; done) | (simp; omega)) ?_) | (with_reducible refine BlkG.alloc ?_) | (with_reducible refine BlkG.bel (by with_reducible assumption) (by first | omega | (simp; done) | (simp; omega)) ?_)))), (by refine BlkG.start ?_; (repeat (first | ((with_reducible apply BlkG.done); (with_reducible assumption); exact rfl) | (with_reducible exact BlkG.newAt (by first | (with_reducible rfl) | omega | (simp; done) | (simp; omega)) rfl) | (with_reducible refine BlkG.drew ?_) | (with_reducible refine BlkG.drewN ?_) | (with_reducible refine BlkG.set ?_) | (with_reducible refine BlkG.far (by first | omega | (simp; done) | (simp; omega)) ?_) | (with_reducible refine BlkG.alloc ?_) | (with_reducible refine BlkG.bel (by with_reducible assumption) (by first | omega | (simp; done) | (simp; omega)) ?_)))), (by refine BlkG.start ?_; (repeat (first | ((with_reducible apply BlkG.done); (with_reducible assumption); exact rfl) | (with_reducible exact BlkG.newAt (by first | (with_reducible rfl) | omega | (simp; done) | (simp; omega)) rfl) | (with_reducible refine BlkG.drew ?_) | (with_reducible refine BlkG.drewN ?_) | (with_reducible refine BlkG.set ?_) | (with_reducible refine BlkG.far (by first | omega | (simp; done) | (simp; omega)) ?_) | (with_reducible refine BlkG.alloc ?_) | (with_reducible refine BlkG.bel (by with_reducible assumption) (by first | omega | (simp; done) | (simp; omega)) ?_)))), (by refine BlkG.start ?_; (repeat (first | ((with_reducible apply BlkG.done); (with_reducible assumption); exact rfl) | (with_reducible exact BlkG.newAt (by first | (with_reducible rfl) | omega | (simp; done) | (simp; omega)) rfl) | (with_reducible refine BlkG.drew ?_) | (with_reducible refine BlkG.drewN ?_) | (with_reducible refine BlkG.set ?_) | (with_reducible refine BlkG.far (by first | omega | (simp; done) | (simp; omega)) ?_) | (with_reducible refine BlkG.alloc ?_) | (with_reducible refine BlkG.bel (by with_reducible assumption) (by first | omega | (simp; done) | (simp; omega)) ?_)))), (by repeat (first | with_reducible exact Below.refl _ _ | (with_reducible refine Below.alloc ?_ (by first | omega | (simp; done) | (simp; omega)) _) | (with_reducible refine Below.setCell ?_ (by first | omega | (simp; done) | (simp; omega)) _) | (with_reducible refine Below.drew ?_) | (with_reducible refine below_drewN ?_ _) | (with_reducible assumption) | (with_reducible refine bel_step (by with_reducible assumption) ?_ (by first | omega | (simp; done) | (simp; omega)))))⟩
  case rest =>
  obtain ⟨rfl, hka, hkb, hkx, hks, hB⟩ := hcut
  obtain ⟨w23, hw23⟩ : ∃ x : World, x = wc := ⟨_, rfl⟩
  subst hw23
  have ba23 : Blk w23 (w.heap.size) 23 #[.int .i64 a, .int .i64 b] := hka
  have ca23_0 : w23.cell? ⟨w.heap.size, 0, none⟩ = some (.int .i64 a) := ba23.cell 0
  have fa23_0 : w23.frozen? ⟨w.heap.size, 0, none⟩ = false := ba23.fz 0
  have ca23_1 : w23.cell? ⟨w.heap.size, 1, none⟩ = some (.int .i64 b) := ba23.cell 1
  have fa23_1 : w23.frozen? ⟨w.heap.size, 1, none⟩ = false := ba23.fz 1
  have la23 : w.heap.size < w23.heap.size := ba23.lt
  have bb23 : Blk w23 (w.heap.size + 1) 23 #[.int .i64 c, .int .i64 d] := hkb
  have cb23_0 : w23.cell? ⟨w.heap.size + 1, 0, none⟩ = some (.int .i64 c) := bb23.cell 0
  have fb23_0 : w23.frozen? ⟨w.heap.size + 1, 0, none⟩ = false := bb23.fz 0
  have cb23_1 : w23.cell? ⟨w.heap.size + 1, 1, none⟩ = some (.int .i64 d) := bb23.cell 1
  have fb23_1 : w23.frozen? ⟨w.heap.size + 1, 1, none⟩ = false := bb23.fz 1
  have lb23 : w.heap.size + 1 < w23.heap.size := bb23.lt
  have bx23 : Blk w23 (w6.heap.size) 23 #[.int .i64 M1, .int .i64 M2] := hkx
  have cx23_0 : w23.cell? ⟨w6.heap.size, 0, none⟩ = some (.int .i64 M1) := bx23.cell 0
  have fx23_0 : w23.frozen? ⟨w6.heap.size, 0, none⟩ = false := bx23.fz 0
  have cx23_1 : w23.cell? ⟨w6.heap.size, 1, none⟩ = some (.int .i64 M2) := bx23.cell 1
  have fx23_1 : w23.frozen? ⟨w6.heap.size, 1, none⟩ = false := bx23.fz 1
  have lx23 : w6.heap.size < w23.heap.size := bx23.lt
  have bs23 : Blk w23 (gh + 1) 23 #[.int .i64 S1, .int .i64 S2] := hks
  have cs23_0 : w23.cell? ⟨gh + 1, 0, none⟩ = some (.int .i64 S1) := bs23.cell 0
  have fs23_0 : w23.frozen? ⟨gh + 1, 0, none⟩ = false := bs23.fz 0
  have cs23_1 : w23.cell? ⟨gh + 1, 1, none⟩ = some (.int .i64 S2) := bs23.cell 1
  have fs23_1 : w23.frozen? ⟨gh + 1, 1, none⟩ = false := bs23.fz 1
  have ls23 : gh + 1 < w23.heap.size := bs23.lt
  have HB23 : Below w.heap.size w w23 := hB
  have HZ23 := HB23.size
  clear hB hka hkb hkx hks
  clear HB22 HZ22
  clear ba22 la22 ca22_0 ca22_1 fa22_0 fa22_1
  clear bb22 lb22 cb22_0 cb22_1 fb22_0 fb22_1
  clear bx22 lx22 cx22_0 cx22_1 fx22_0 fx22_1
  clear bs22 ls22 cs22_0 cs22_1 fs22_0 fs22_1
  clear bm22 lm22 cm22_0 cm22_1 fm22_0 fm22_1
  go_wp2_with fail
  refine (CAd.out _).mono ?_
  rintro e w24 ⟨rfl, hb24⟩
  have hz24 := hb24.size
  (try simp at hz24)
  have ba24 : Blk w24 (w.heap.size) 23 #[.int .i64 a, .int .i64 b] := (by refine BlkG.start ?_; (repeat (first | ((with_reducible apply BlkG.done); (with_reducible assumption); exact rfl) | (with_reducible exact BlkG.newAt (by first | (with_reducible rfl) | omega | (simp; done) | (simp; omega)) rfl) | (with_reducible refine BlkG.drew ?_) | (with_reducible refine BlkG.drewN ?_) | (with_reducible refine BlkG.set ?_) | (with_reducible refine BlkG.far (by first | omega | (simp; done) | (simp; omega)) ?_) | (with_reducible refine BlkG.alloc ?_) | (with_reducible refine BlkG.bel (by with_reducible assumption) (by first | omega | (simp; done) | (simp; omega)) ?_))))
  have ca24_0 : w24.cell? ⟨w.heap.size, 0, none⟩ = some (.int .i64 a) := ba24.cell 0
  have fa24_0 : w24.frozen? ⟨w.heap.size, 0, none⟩ = false := ba24.fz 0
  have ca24_1 : w24.cell? ⟨w.heap.size, 1, none⟩ = some (.int .i64 b) := ba24.cell 1
  have fa24_1 : w24.frozen? ⟨w.heap.size, 1, none⟩ = false := ba24.fz 1
  have la24 : w.heap.size < w24.heap.size := ba24.lt
  have bb24 : Blk w24 (w.heap.size + 1) 23 #[.int .i64 c, .int .i64 d] := (by refine BlkG.start ?_; (repeat (first | ((with_reducible apply BlkG.done); (with_reducible assumption); exact rfl) | (with_reducible exact BlkG.newAt (by first | (with_reducible rfl) | omega | (simp; done) | (simp; omega)) rfl) | (with_reducible refine BlkG.drew ?_) | (with_reducible refine BlkG.drewN ?_) | (with_reducible refine BlkG.set ?_) | (with_reducible refine BlkG.far (by first | omega | (simp; done) | (simp; omega)) ?_) | (with_reducible refine BlkG.alloc ?_) | (with_reducible refine BlkG.bel (by with_reducible assumption) (by first | omega | (simp; done) | (simp; omega)) ?_))))
  have cb24_0 : w24.cell? ⟨w.heap.size + 1, 0, none⟩ = some (.int .i64 c) := bb24.cell 0
  have fb24_0 : w24.frozen? ⟨w.heap.size + 1, 0, none⟩ = false := bb24.fz 0
  have cb24_1 : w24.cell? ⟨w.heap.size + 1, 1, none⟩ = some (.int .i64 d) := bb24.cell 1
  have fb24_1 : w24.frozen? ⟨w.heap.size + 1, 1, none⟩ = false := bb24.fz 1
  have lb24 : w.heap.size + 1 < w24.heap.size := bb24.lt
  have bx24 : Blk w24 (w6.heap.size) 23 #[.int .i64 M1, .int .i64 M2] := (by refine BlkG.start ?_; (repeat (first | ((with_reducible apply BlkG.done); (with_reducible assumption); exact rfl) | (with_reducible exact BlkG.newAt (by first | (with_reducible rfl) | omega | (simp; done) | (simp; omega)) rfl) | (with_reducible refine BlkG.drew ?_) | (with_reducible refine BlkG.drewN ?_) | (with_reducible refine BlkG.set ?_) | (with_reducible refine BlkG.far (by first | omega | (simp; done) | (simp; omega)) ?_) | (with_reducible refine BlkG.alloc ?_) | (with_reducible refine BlkG.bel (by with_reducible assumption) (by first | omega | (simp; done) | (simp; omega)) ?_))))
  have cx24_0 : w24.cell? ⟨w6.heap.size, 0, none⟩ = some (.int .i64 M1) := bx24.cell 0
  have fx24_0 : w24.frozen? ⟨w6.heap.size, 0, none⟩ = false := bx24.fz 0
  have cx24_1 : w24.cell? ⟨w6.heap.size, 1, none⟩ = some (.int .i64 M2) := bx24.cell 1
  have fx24_1 : w24.frozen? ⟨w6.heap.size, 1, none⟩ = false := bx24.fz 1
  have lx24 : w6.heap.size < w24.heap.size := bx24.lt
  have bs24 : Blk w24 (gh + 1) 23 #[.int .i64 S1, .int .i64 S2] := (by refine BlkG.start ?_; (repeat (first | ((with_reducible apply BlkG.done); (with_reducible assumption); exact rfl) | (with_reducible exact BlkG.newAt (by first | (with_reducible rfl) | omega | (simp; done) | (simp; omega)) rfl) | (with_reducible refine BlkG.drew ?_) | (with_reducible refine BlkG.drewN ?_) | (with_reducible refine BlkG.set ?_) | (with_reducible refine BlkG.far (by first | omega | (simp; done) | (simp; omega)) ?_) | (with_reducible refine BlkG.alloc ?_) | (with_reducible refine BlkG.bel (by with_reducible assumption) (by first | omega | (simp; done) | (simp; omega)) ?_))))
  have cs24_0 : w24.cell? ⟨gh + 1, 0, none⟩ = some (.int .i64 S1) := bs24.cell 0
  have fs24_0 : w24.frozen? ⟨gh + 1, 0, none⟩ = false := bs24.fz 0
  have cs24_1 : w24.cell? ⟨gh + 1, 1, none⟩ = some (.int .i64 S2) := bs24.cell 1
  have fs24_1 : w24.frozen? ⟨gh + 1, 1, none⟩ = false := bs24.fz 1
  have ls24 : gh + 1 < w24.heap.size := bs24.lt
  have HB24 : Below w.heap.size w w24 := (by repeat (first | with_reducible exact Below.refl _ _ | (with_reducible refine Below.alloc ?_ (by first | omega | (simp; done) | (simp; omega)) _) | (with_reducible refine Below.setCell ?_ (by first | omega | (simp; done) | (simp; omega)) _) | (with_reducible refine Below.drew ?_) | (with_reducible refine below_drewN ?_ _) | (with_reducible assumption) | (with_reducible refine bel_step (by with_reducible assumption) ?_ (by first | omega | (simp; done) | (simp; omega)))))
  have HZ24 := HB24.size
  clear hb24 hz24 HB23 HZ23 ba23 la23 ca23_0 fa23_0 ca23_1 fa23_1 bb23 lb23 cb23_0 fb23_0 cb23_1 fb23_1 bx23 lx23 cx23_0 fx23_0 cx23_1 fx23_1 bs23 ls23 cs23_0 fs23_0 cs23_1 fs23_1 
  go_wp2_with fail
  refine (CE.out e3 _ (by repeat (first | with_reducible exact Below.refl _ _ | (with_reducible refine Below.alloc ?_ (by first | omega | (simp; done) | (simp; omega)) _) | (with_reducible refine Below.setCell ?_ (by first | omega | (simp; done) | (simp; omega)) _) | (with_reducible refine Below.drew ?_) | (with_reducible refine below_drewN ?_ _) | (with_reducible assumption) | (with_reducible refine bel_step (by with_reducible assumption) ?_ (by first | omega | (simp; done) | (simp; omega)))))).mono ?_
  rintro e w25 ⟨rfl, hb25⟩
  have hz25 := hb25.size
  (try simp at hz25)
  have ba25 : Blk w25 (w.heap.size) 23 #[.int .i64 a, .int .i64 b] := (by refine BlkG.start ?_; (repeat (first | ((with_reducible apply BlkG.done); (with_reducible assumption); exact rfl) | (with_reducible exact BlkG.newAt (by first | (with_reducible rfl) | omega | (simp; done) | (simp; omega)) rfl) | (with_reducible refine BlkG.drew ?_) | (with_reducible refine BlkG.drewN ?_) | (with_reducible refine BlkG.set ?_) | (with_reducible refine BlkG.far (by first | omega | (simp; done) | (simp; omega)) ?_) | (with_reducible refine BlkG.alloc ?_) | (with_reducible refine BlkG.bel (by with_reducible assumption) (by first | omega | (simp; done) | (simp; omega)) ?_))))
  have ca25_0 : w25.cell? ⟨w.heap.size, 0, none⟩ = some (.int .i64 a) := ba25.cell 0
  have fa25_0 : w25.frozen? ⟨w.heap.size, 0, none⟩ = false := ba25.fz 0
  have ca25_1 : w25.cell? ⟨w.heap.size, 1, none⟩ = some (.int .i64 b) := ba25.cell 1
  have fa25_1 : w25.frozen? ⟨w.heap.size, 1, none⟩ = false := ba25.fz 1
  have la25 : w.heap.size < w25.heap.size := ba25.lt
  have bb25 : Blk w25 (w.heap.size + 1) 23 #[.int .i64 c, .int .i64 d] := (by refine BlkG.start ?_; (repeat (first | ((with_reducible apply BlkG.done); (with_reducible assumption); exact rfl) | (with_reducible exact BlkG.newAt (by first | (with_reducible rfl) | omega | (simp; done) | (simp; omega)) rfl) | (with_reducible refine BlkG.drew ?_) | (with_reducible refine BlkG.drewN ?_) | (with_reducible refine BlkG.set ?_) | (with_reducible refine BlkG.far (by first | omega | (simp; done) | (simp; omega)) ?_) | (with_reducible refine BlkG.alloc ?_) | (with_reducible refine BlkG.bel (by with_reducible assumption) (by first | omega | (simp; done) | (simp; omega)) ?_))))
  have cb25_0 : w25.cell? ⟨w.heap.size + 1, 0, none⟩ = some (.int .i64 c) := bb25.cell 0
  have fb25_0 : w25.frozen? ⟨w.heap.size + 1, 0, none⟩ = false := bb25.fz 0
  have cb25_1 : w25.cell? ⟨w.heap.size + 1, 1, none⟩ = some (.int .i64 d) := bb25.cell 1
  have fb25_1 : w25.frozen? ⟨w.heap.size + 1, 1, none⟩ = false := bb25.fz 1
  have lb25 : w.heap.size + 1 < w25.heap.size := bb25.lt
  have bx25 : Blk w25 (w6.heap.size) 23 #[.int .i64 S1, .int .i64 S2] := (by refine BlkG.start ?_; (repeat (first | ((with_reducible apply BlkG.done); (with_reducible assumption); exact rfl) | (with_reducible exact BlkG.newAt (by first | (with_reducible rfl) | omega | (simp; done) | (simp; omega)) rfl) | (with_reducible refine BlkG.drew ?_) | (with_reducible refine BlkG.drewN ?_) | (with_reducible refine BlkG.set ?_) | (with_reducible refine BlkG.far (by first | omega | (simp; done) | (simp; omega)) ?_) | (with_reducible refine BlkG.alloc ?_) | (with_reducible refine BlkG.bel (by with_reducible assumption) (by first | omega | (simp; done) | (simp; omega)) ?_))))
  have cx25_0 : w25.cell? ⟨w6.heap.size, 0, none⟩ = some (.int .i64 S1) := bx25.cell 0
  have fx25_0 : w25.frozen? ⟨w6.heap.size, 0, none⟩ = false := bx25.fz 0
  have cx25_1 : w25.cell? ⟨w6.heap.size, 1, none⟩ = some (.int .i64 S2) := bx25.cell 1
  have fx25_1 : w25.frozen? ⟨w6.heap.size, 1, none⟩ = false := bx25.fz 1
  have lx25 : w6.heap.size < w25.heap.size := bx25.lt
  have bs25 : Blk w25 (gh + 1) 23 #[.int .i64 S1, .int .i64 S2] := (by refine BlkG.start ?_; (repeat (first | ((with_reducible apply BlkG.done); (with_reducible assumption); exact rfl) | (with_reducible exact BlkG.newAt (by first | (with_reducible rfl) | omega | (simp; done) | (simp; omega)) rfl) | (with_reducible refine BlkG.drew ?_) | (with_reducible refine BlkG.drewN ?_) | (with_reducible refine BlkG.set ?_) | (with_reducible refine BlkG.far (by first | omega | (simp; done) | (simp; omega)) ?_) | (with_reducible refine BlkG.alloc ?_) | (with_reducible refine BlkG.bel (by with_reducible assumption) (by first | omega | (simp; done) | (simp; omega)) ?_))))
  have cs25_0 : w25.cell? ⟨gh + 1, 0, none⟩ = some (.int .i64 S1) := bs25.cell 0
  have fs25_0 : w25.frozen? ⟨gh + 1, 0, none⟩ = false := bs25.fz 0
  have cs25_1 : w25.cell? ⟨gh + 1, 1, none⟩ = some (.int .i64 S2) := bs25.cell 1
  have fs25_1 : w25.frozen? ⟨gh + 1, 1, none⟩ = false := bs25.fz 1
  have ls25 : gh + 1 < w25.heap.size := bs25.lt
  have HB25 : Below w.heap.size w w25 := (by repeat (first | with_reducible exact Below.refl _ _ | (with_reducible refine Below.alloc ?_ (by first | omega | (simp; done) | (simp; omega)) _) | (with_reducible refine Below.setCell ?_ (by first | omega | (simp; done) | (simp; omega)) _) | (with_reducible refine Below.drew ?_) | (with_reducible refine below_drewN ?_ _) | (with_reducible assumption) | (with_reducible refine bel_step (by with_reducible assumption) ?_ (by first | omega | (simp; done) | (simp; omega)))))
  have HZ25 := HB25.size
  clear hb25 hz25 HB24 HZ24 ba24 la24 ca24_0 fa24_0 ca24_1 fa24_1 bb24 lb24 cb24_0 fb24_0 cb24_1 fb24_1 bx24 lx24 cx24_0 fx24_0 cx24_1 fx24_1 bs24 ls24 cs24_0 fs24_0 cs24_1 fs24_1 
  go_wp2_with fail
  refine (CRe.out _).mono ?_
  rintro e w26 ⟨rfl, hb26⟩
  have hz26 := hb26.size
  (try simp at hz26)
  have bx26 : Blk w26 (w6.heap.size) 23 #[.int .i64 S1, .int .i64 S2] := (by refine BlkG.start ?_; (repeat (first | ((with_reducible apply BlkG.done); (with_reducible assumption); exact rfl) | (with_reducible exact BlkG.newAt (by first | (with_reducible rfl) | omega | (simp; done) | (simp; omega)) rfl) | (with_reducible refine BlkG.drew ?_) | (with_reducible refine BlkG.drewN ?_) | (with_reducible refine BlkG.set ?_) | (with_reducible refine BlkG.far (by first | omega | (simp; done) | (simp; omega)) ?_) | (with_reducible refine BlkG.alloc ?_) | (with_reducible refine BlkG.bel (by with_reducible assumption) (by first | omega | (simp; done) | (simp; omega)) ?_))))
  have cx26_0 : w26.cell? ⟨w6.heap.size, 0, none⟩ = some (.int .i64 S1) := bx26.cell 0
  have fx26_0 : w26.frozen? ⟨w6.heap.size, 0, none⟩ = false := bx26.fz 0
  have cx26_1 : w26.cell? ⟨w6.heap.size, 1, none⟩ = some (.int .i64 S2) := bx26.cell 1
  have fx26_1 : w26.frozen? ⟨w6.heap.size, 1, none⟩ = false := bx26.fz 1
  have lx26 : w6.heap.size < w26.heap.size := bx26.lt
  have HB26 : Below w.heap.size w w26 := (by repeat (first | with_reducible exact Below.refl _ _ | (with_reducible refine Below.alloc ?_ (by first | omega | (simp; done) | (simp; omega)) _) | (with_reducible refine Below.setCell ?_ (by first | omega | (simp; done) | (simp; omega)) _) | (with_reducible refine Below.drew ?_) | (with_reducible refine below_drewN ?_ _) | (with_reducible assumption) | (with_reducible refine bel_step (by with_reducible assumption) ?_ (by first | omega | (simp; done) | (simp; omega)))))
  have HZ26 := HB26.size
  clear hb26 hz26 HB25 HZ25 bx25 lx25 cx25_0 fx25_0 cx25_1 fx25_1 
  clear ba25 la25 ca25_0 ca25_1 fa25_0 fa25_1
  clear bb25 lb25 cb25_0 cb25_1 fb25_0 fb25_1
  clear bs25 ls25 cs25_0 cs25_1 fs25_0 fs25_1
  go_wp2_with fail
  refine (CPa.out _ (SpanW.below HW.out (by repeat (first | with_reducible exact Below.refl _ _ | (with_reducible refine Below.alloc ?_ (by first | omega | (simp; done) | (simp; omega)) _) | (with_reducible refine Below.setCell ?_ (by first | omega | (simp; done) | (simp; omega)) _) | (with_reducible refine Below.drew ?_) | (with_reducible refine below_drewN ?_ _) | (with_reducible assumption) | (with_reducible refine bel_step (by with_reducible assumption) ?_ (by first | omega | (simp; done) | (simp; omega))))))).mono ?_
  rintro e w27 ⟨rfl, hb27⟩
  have hz27 := hb27.size
  (try simp at hz27)
  have agy : w.heap.size ≤ w26.heap.size := by first | omega | (simp; done) | (simp; omega)
  have oyx : w6.heap.size < w26.heap.size := by (try simp); omega
  have bx27 : Blk w27 (w6.heap.size) 23 #[.int .i64 S1, .int .i64 S2] := (by refine BlkG.start ?_; (repeat (first | ((with_reducible apply BlkG.done); (with_reducible assumption); exact rfl) | (with_reducible exact BlkG.newAt (by first | (with_reducible rfl) | omega | (simp; done) | (simp; omega)) rfl) | (with_reducible refine BlkG.drew ?_) | (with_reducible refine BlkG.drewN ?_) | (with_reducible refine BlkG.set ?_) | (with_reducible refine BlkG.far (by first | omega | (simp; done) | (simp; omega)) ?_) | (with_reducible refine BlkG.alloc ?_) | (with_reducible refine BlkG.bel (by with_reducible assumption) (by first | omega | (simp; done) | (simp; omega)) ?_))))
  have cx27_0 : w27.cell? ⟨w6.heap.size, 0, none⟩ = some (.int .i64 S1) := bx27.cell 0
  have fx27_0 : w27.frozen? ⟨w6.heap.size, 0, none⟩ = false := bx27.fz 0
  have cx27_1 : w27.cell? ⟨w6.heap.size, 1, none⟩ = some (.int .i64 S2) := bx27.cell 1
  have fx27_1 : w27.frozen? ⟨w6.heap.size, 1, none⟩ = false := bx27.fz 1
  have lx27 : w6.heap.size < w27.heap.size := bx27.lt
  have by27 : Blk w27 (w26.heap.size) 23 #[.int .i64 P1, .int .i64 P2] := (by refine BlkG.start ?_; (repeat (first | ((with_reducible apply BlkG.done); (with_reducible assumption); exact rfl) | (with_reducible exact BlkG.newAt (by first | (with_reducible rfl) | omega | (simp; done) | (simp; omega)) rfl) | (with_reducible refine BlkG.drew ?_) | (with_reducible refine BlkG.drewN ?_) | (with_reducible refine BlkG.set ?_) | (with_reducible refine BlkG.far (by first | omega | (simp; done) | (simp; omega)) ?_) | (with_reducible refine BlkG.alloc ?_) | (with_reducible refine BlkG.bel (by with_reducible assumption) (by first | omega | (simp; done) | (simp; omega)) ?_))))
  have cy27_0 : w27.cell? ⟨w26.heap.size, 0, none⟩ = some (.int .i64 P1) := by27.cell 0
  have fy27_0 : w27.frozen? ⟨w26.heap.size, 0, none⟩ = false := by27.fz 0
  have cy27_1 : w27.cell? ⟨w26.heap.size, 1, none⟩ = some (.int .i64 P2) := by27.cell 1
  have fy27_1 : w27.frozen? ⟨w26.heap.size, 1, none⟩ = false := by27.fz 1
  have ly27 : w26.heap.size < w27.heap.size := by27.lt
  have HB27 : Below w.heap.size w w27 := (by repeat (first | with_reducible exact Below.refl _ _ | (with_reducible refine Below.alloc ?_ (by first | omega | (simp; done) | (simp; omega)) _) | (with_reducible refine Below.setCell ?_ (by first | omega | (simp; done) | (simp; omega)) _) | (with_reducible refine Below.drew ?_) | (with_reducible refine below_drewN ?_ _) | (with_reducible assumption) | (with_reducible refine bel_step (by with_reducible assumption) ?_ (by first | omega | (simp; done) | (simp; omega)))))
  have HZ27 := HB27.size
  clear hb27 hz27 HB26 HZ26 bx26 lx26 cx26_0 fx26_0 cx26_1 fx26_1 
  go_wp2_with fail
  refine (CE.out e4 _ (by repeat (first | with_reducible exact Below.refl _ _ | (with_reducible refine Below.alloc ?_ (by first | omega | (simp; done) | (simp; omega)) _) | (with_reducible refine Below.setCell ?_ (by first | omega | (simp; done) | (simp; omega)) _) | (with_reducible refine Below.drew ?_) | (with_reducible refine below_drewN ?_ _) | (with_reducible assumption) | (with_reducible refine bel_step (by with_reducible assumption) ?_ (by first | omega | (simp; done) | (simp; omega)))))).mono ?_
  rintro e w28 ⟨rfl, hb28⟩
  have hz28 := hb28.size
  (try simp at hz28)
  have bx28 : Blk w28 (w6.heap.size) 23 #[.int .i64 P1, .int .i64 P2] := (by refine BlkG.start ?_; (repeat (first | ((with_reducible apply BlkG.done); (with_reducible assumption); exact rfl) | (with_reducible exact BlkG.newAt (by first | (with_reducible rfl) | omega | (simp; done) | (simp; omega)) rfl) | (with_reducible refine BlkG.drew ?_) | (with_reducible refine BlkG.drewN ?_) | (with_reducible refine BlkG.set ?_) | (with_reducible refine BlkG.far (by first | omega | (simp; done) | (simp; omega)) ?_) | (with_reducible refine BlkG.alloc ?_) | (with_reducible refine BlkG.bel (by with_reducible assumption) (by first | omega | (simp; done) | (simp; omega)) ?_))))
  have cx28_0 : w28.cell? ⟨w6.heap.size, 0, none⟩ = some (.int .i64 P1) := bx28.cell 0
  have fx28_0 : w28.frozen? ⟨w6.heap.size, 0, none⟩ = false := bx28.fz 0
  have cx28_1 : w28.cell? ⟨w6.heap.size, 1, none⟩ = some (.int .i64 P2) := bx28.cell 1
  have fx28_1 : w28.frozen? ⟨w6.heap.size, 1, none⟩ = false := bx28.fz 1
  have lx28 : w6.heap.size < w28.heap.size := bx28.lt
  have by28 : Blk w28 (w26.heap.size) 23 #[.int .i64 P1, .int .i64 P2] := (by refine BlkG.start ?_; (repeat (first | ((with_reducible apply BlkG.done); (with_reducible assumption); exact rfl) | (with_reducible exact BlkG.newAt (by first | (with_reducible rfl) | omega | (simp; done) | (simp; omega)) rfl) | (with_reducible refine BlkG.drew ?_) | (with_reducible refine BlkG.drewN ?_) | (with_reducible refine BlkG.set ?_) | (with_reducible refine BlkG.far (by first | omega | (simp; done) | (simp; omega)) ?_) | (with_reducible refine BlkG.alloc ?_) | (with_reducible refine BlkG.bel (by with_reducible assumption) (by first | omega | (simp; done) | (simp; omega)) ?_))))
  have cy28_0 : w28.cell? ⟨w26.heap.size, 0, none⟩ = some (.int .i64 P1) := by28.cell 0
  have fy28_0 : w28.frozen? ⟨w26.heap.size, 0, none⟩ = false := by28.fz 0
  have cy28_1 : w28.cell? ⟨w26.heap.size, 1, none⟩ = some (.int .i64 P2) := by28.cell 1
  have fy28_1 : w28.frozen? ⟨w26.heap.size, 1, none⟩ = false := by28.fz 1
  have ly28 : w26.heap.size < w28.heap.size := by28.lt
  have HB28 : Below w.heap.size w w28 := (by repeat (first | with_reducible exact Below.refl _ _ | (with_reducible refine Below.alloc ?_ (by first | omega | (simp; done) | (simp; omega)) _) | (with_reducible refine Below.setCell ?_ (by first | omega | (simp; done) | (simp; omega)) _) | (with_reducible refine Below.drew ?_) | (with_reducible refine below_drewN ?_ _) | (with_reducible assumption) | (with_reducible refine bel_step (by with_reducible assumption) ?_ (by first | omega | (simp; done) | (simp; omega)))))
  have HZ28 := HB28.size
  clear hb28 hz28 HB27 HZ27 bx27 lx27 cx27_0 fx27_0 cx27_1 fx27_1 by27 ly27 cy27_0 fy27_0 cy27_1 fy27_1 
  go_wp2_with fail
  go_ret
  exact ⟨rfl, (by repeat (first | with_reducible exact Below.refl _ _ | (with_reducible refine Below.alloc ?_ (by first | omega | (simp; done) | (simp; omega)) _) | (with_reducible refine Below.setCell ?_ (by first | omega | (simp; done) | (simp; omega)) _) | (with_reducible refine Below.drew ?_) | (with_reducible refine below_drewN ?_ _) | (with_reducible assumption) | (with_reducible refine bel_step (by with_reducible assumption) ?_ (by first | omega | (simp; done) | (simp; omega)))))⟩
end Go.Proofs.YtjhfikbjfipmkaaDoor.lSpanTells
