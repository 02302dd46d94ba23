/- Parts of the proof: Printed by facts.py of this repo: closed facts of the program. Printed by facts.py of this repo: closed facts of the program. -/
import Derived.Test.YtdndpmlapcbjaaaGreatTA
import Derived.KernelRfl
namespace Go.Proofs.YtdndpmlapcbjaaaGreat
open Go Go.RowKit
set_option maxRecDepth 100000
theorem ag_125 : aggSize Tryz.prog 125 = 5 := by kernel_rfl
theorem ag_141 : aggSize Tryz.prog 141 = 2 := by kernel_rfl
theorem ag_221 : aggSize Tryz.prog 221 = 3 := by kernel_rfl
theorem ag_373 : aggSize Tryz.prog 373 = 32 := by kernel_rfl
theorem ag_431 : aggSize Tryz.prog 431 = 8 := by kernel_rfl
theorem ag_450 : aggSize Tryz.prog 450 = 64 := by kernel_rfl
theorem ea_373 : ea Tryz.prog 373 = some (32, 1) := by kernel_rfl
theorem ea_431 : ea Tryz.prog 431 = some (8, 1) := by kernel_rfl
theorem ea_450 : ea Tryz.prog 450 = some (64, 1) := by kernel_rfl
theorem es_32 : es Tryz.prog 32 = some 1 := by kernel_rfl
theorem es_36 : es Tryz.prog 36 = some 1 := by kernel_rfl
theorem es_49 : es Tryz.prog 49 = some 2 := by kernel_rfl
theorem es_55 : es Tryz.prog 55 = some 1 := by kernel_rfl
theorem es_109 : es Tryz.prog 109 = some 1 := by kernel_rfl
theorem es_112 : es Tryz.prog 112 = some 2 := by kernel_rfl
theorem fo_111_0 : fo Tryz.prog 111 0 = some 0 := by kernel_rfl
theorem fo_111_1 : fo Tryz.prog 111 1 = some 1 := by kernel_rfl
theorem fo_115_0 : fo Tryz.prog 115 0 = some 0 := by kernel_rfl
theorem fo_115_1 : fo Tryz.prog 115 1 = some 1 := by kernel_rfl
theorem fo_115_2 : fo Tryz.prog 115 2 = some 2 := by kernel_rfl
theorem fo_115_3 : fo Tryz.prog 115 3 = some 3 := by kernel_rfl
theorem fo_115_4 : fo Tryz.prog 115 4 = some 4 := by kernel_rfl
theorem fo_115_5 : fo Tryz.prog 115 5 = some 5 := by kernel_rfl
theorem fo_115_6 : fo Tryz.prog 115 6 = some 6 := by kernel_rfl
theorem fo_115_7 : fo Tryz.prog 115 7 = some 7 := by kernel_rfl
theorem fo_115_8 : fo Tryz.prog 115 8 = some 8 := by kernel_rfl
theorem fo_117_0 : fo Tryz.prog 117 0 = some 0 := by kernel_rfl
theorem fo_117_1 : fo Tryz.prog 117 1 = some 1 := by kernel_rfl
theorem fo_125_0 : fo Tryz.prog 125 0 = some 0 := by kernel_rfl
theorem fo_125_1 : fo Tryz.prog 125 1 = some 1 := by kernel_rfl
theorem fo_125_2 : fo Tryz.prog 125 2 = some 2 := by kernel_rfl
theorem fo_125_3 : fo Tryz.prog 125 3 = some 3 := by kernel_rfl
theorem fo_125_4 : fo Tryz.prog 125 4 = some 4 := by kernel_rfl
theorem fo_135_0 : fo Tryz.prog 135 0 = some 0 := by kernel_rfl
theorem fo_135_1 : fo Tryz.prog 135 1 = some 1 := by kernel_rfl
theorem fo_141_0 : fo Tryz.prog 141 0 = some 0 := by kernel_rfl
theorem fo_141_1 : fo Tryz.prog 141 1 = some 1 := by kernel_rfl
theorem fo_221_0 : fo Tryz.prog 221 0 = some 0 := by kernel_rfl
theorem fo_221_1 : fo Tryz.prog 221 1 = some 1 := by kernel_rfl
theorem fo_221_2 : fo Tryz.prog 221 2 = some 2 := by kernel_rfl
theorem fo_434_0 : fo Tryz.prog 434 0 = some 0 := by kernel_rfl
theorem fo_434_1 : fo Tryz.prog 434 1 = some 8 := by kernel_rfl
theorem fo_434_2 : fo Tryz.prog 434 2 = some 9 := by kernel_rfl
theorem ip_26 : isPtr Tryz.prog 26 = true := by kernel_rfl
theorem ip_28 : isPtr Tryz.prog 28 = true := by kernel_rfl
theorem ip_108 : isPtr Tryz.prog 108 = true := by kernel_rfl
theorem ip_405 : isPtr Tryz.prog 405 = true := by kernel_rfl
theorem is_32 : isSl Tryz.prog 32 = true := by kernel_rfl
theorem is_36 : isSl Tryz.prog 36 = true := by kernel_rfl
theorem is_49 : isSl Tryz.prog 49 = true := by kernel_rfl
theorem is_55 : isSl Tryz.prog 55 = true := by kernel_rfl
theorem is_109 : isSl Tryz.prog 109 = true := by kernel_rfl
theorem is_112 : isSl Tryz.prog 112 = true := by kernel_rfl
theorem na_3 : nonAgg Tryz.prog 3 = true := by kernel_rfl
theorem na_4 : nonAgg Tryz.prog 4 = true := by kernel_rfl
theorem na_5 : nonAgg Tryz.prog 5 = true := by kernel_rfl
theorem na_9 : nonAgg Tryz.prog 9 = true := by kernel_rfl
theorem na_26 : nonAgg Tryz.prog 26 = true := by kernel_rfl
theorem na_28 : nonAgg Tryz.prog 28 = true := by kernel_rfl
theorem na_29 : nonAgg Tryz.prog 29 = true := by kernel_rfl
theorem na_32 : nonAgg Tryz.prog 32 = true := by kernel_rfl
theorem na_36 : nonAgg Tryz.prog 36 = true := by kernel_rfl
theorem na_44 : nonAgg Tryz.prog 44 = true := by kernel_rfl
theorem na_49 : nonAgg Tryz.prog 49 = true := by kernel_rfl
theorem na_55 : nonAgg Tryz.prog 55 = true := by kernel_rfl
theorem na_108 : nonAgg Tryz.prog 108 = true := by kernel_rfl
theorem na_109 : nonAgg Tryz.prog 109 = true := by kernel_rfl
theorem na_112 : nonAgg Tryz.prog 112 = true := by kernel_rfl
theorem na_113 : nonAgg Tryz.prog 113 = true := by kernel_rfl
theorem na_301 : nonAgg Tryz.prog 301 = true := by kernel_rfl
theorem pl_111 : pl Tryz.prog 111 = some [(0, 1), (1, 1)] := by kernel_rfl
theorem pl_115 : pl Tryz.prog 115 = some [(0, 1), (1, 1), (2, 1), (3, 1), (4, 1), (5, 1), (6, 1), (7, 1), (8, 1)] := by kernel_rfl
theorem pl_117 : pl Tryz.prog 117 = some [(0, 1), (1, 1)] := by kernel_rfl
theorem pl_125 : pl Tryz.prog 125 = some [(0, 1), (1, 1), (2, 1), (3, 1), (4, 1)] := by kernel_rfl
theorem pl_135 : pl Tryz.prog 135 = some [(0, 1), (1, 1)] := by kernel_rfl
theorem pl_141 : pl Tryz.prog 141 = some [(0, 1), (1, 1)] := by kernel_rfl
theorem pl_221 : pl Tryz.prog 221 = some [(0, 1), (1, 1), (2, 1)] := by kernel_rfl
theorem pl_434 : pl Tryz.prog 434 = some [(0, 8), (8, 1), (9, 1)] := by kernel_rfl
theorem sb_3 : (Tryz.prog.info? 3).map (fun i => (i.size, i.bytes)) = some (1, 8) := by kernel_rfl
theorem sb_5 : (Tryz.prog.info? 5).map (fun i => (i.size, i.bytes)) = some (1, 1) := by kernel_rfl
theorem sb_9 : (Tryz.prog.info? 9).map (fun i => (i.size, i.bytes)) = some (1, 16) := by kernel_rfl
theorem sb_32 : (Tryz.prog.info? 32).map (fun i => (i.size, i.bytes)) = some (1, 24) := by kernel_rfl
theorem sb_135 : (Tryz.prog.info? 135).map (fun i => (i.size, i.bytes)) = some (2, 32) := by kernel_rfl
theorem sb_141 : (Tryz.prog.info? 141).map (fun i => (i.size, i.bytes)) = some (2, 40) := by kernel_rfl
theorem sb_221 : (Tryz.prog.info? 221).map (fun i => (i.size, i.bytes)) = some (3, 40) := by kernel_rfl
theorem sz_3 : (Tryz.prog.info? 3).map (·.size) = some 1 := by kernel_rfl
theorem sz_4 : (Tryz.prog.info? 4).map (·.size) = some 1 := by kernel_rfl
theorem sz_5 : (Tryz.prog.info? 5).map (·.size) = some 1 := by kernel_rfl
theorem sz_9 : (Tryz.prog.info? 9).map (·.size) = some 1 := by kernel_rfl
theorem sz_28 : (Tryz.prog.info? 28).map (·.size) = some 1 := by kernel_rfl
theorem sz_29 : (Tryz.prog.info? 29).map (·.size) = some 1 := by kernel_rfl
theorem sz_32 : (Tryz.prog.info? 32).map (·.size) = some 1 := by kernel_rfl
theorem sz_36 : (Tryz.prog.info? 36).map (·.size) = some 1 := by kernel_rfl
theorem sz_49 : (Tryz.prog.info? 49).map (·.size) = some 1 := by kernel_rfl
theorem sz_55 : (Tryz.prog.info? 55).map (·.size) = some 1 := by kernel_rfl
theorem sz_108 : (Tryz.prog.info? 108).map (·.size) = some 1 := by kernel_rfl
theorem sz_109 : (Tryz.prog.info? 109).map (·.size) = some 1 := by kernel_rfl
theorem sz_112 : (Tryz.prog.info? 112).map (·.size) = some 1 := by kernel_rfl
theorem sz_113 : (Tryz.prog.info? 113).map (·.size) = some 1 := by kernel_rfl
theorem sz_125 : (Tryz.prog.info? 125).map (·.size) = some 5 := by kernel_rfl
theorem sz_135 : (Tryz.prog.info? 135).map (·.size) = some 2 := by kernel_rfl
theorem sz_141 : (Tryz.prog.info? 141).map (·.size) = some 2 := by kernel_rfl
theorem sz_221 : (Tryz.prog.info? 221).map (·.size) = some 3 := by kernel_rfl
theorem sz_301 : (Tryz.prog.info? 301).map (·.size) = some 1 := by kernel_rfl
theorem sz_373 : (Tryz.prog.info? 373).map (·.size) = some 32 := by kernel_rfl
theorem sz_431 : (Tryz.prog.info? 431).map (·.size) = some 8 := by kernel_rfl
theorem sz_450 : (Tryz.prog.info? 450).map (·.size) = some 64 := by kernel_rfl
theorem ul_3 : Tryz.prog.underlying 3 = some (.int .i64) := by kernel_rfl
theorem ul_5 : Tryz.prog.underlying 5 = some (.int .u8) := by kernel_rfl
theorem ul_9 : Tryz.prog.underlying 9 = some (.string) := by kernel_rfl
theorem ul_21 : Tryz.prog.underlying 21 = some (.int .i32) := by kernel_rfl
theorem ul_23 : Tryz.prog.underlying 23 = some (.int .u64) := by kernel_rfl
theorem ul_32 : Tryz.prog.underlying 32 = some (.slice 5) := by kernel_rfl
theorem ul_36 : Tryz.prog.underlying 36 = some (.slice 9) := by kernel_rfl
theorem ul_49 : Tryz.prog.underlying 49 = some (.slice 141) := by kernel_rfl
theorem ul_55 : Tryz.prog.underlying 55 = some (.slice 32) := by kernel_rfl
theorem ul_109 : Tryz.prog.underlying 109 = some (.slice 3) := by kernel_rfl
theorem ul_112 : Tryz.prog.underlying 112 = some (.slice 135) := by kernel_rfl
theorem ul_113 : Tryz.prog.underlying 113 = some (.slice 221) := by kernel_rfl
theorem ul_301 : Tryz.prog.underlying 301 = some (.int .u32) := by kernel_rfl
theorem ul_307 : Tryz.prog.underlying 307 = some (.int .u64) := by kernel_rfl
theorem ul_431 : Tryz.prog.underlying 431 = some (.array 8 301) := by kernel_rfl
theorem zc_3 : zc Tryz.prog 3 = some [.int .i64 0] := by kernel_rfl
theorem zc_4 : zc Tryz.prog 4 = some [.bool false] := by kernel_rfl
theorem zc_5 : zc Tryz.prog 5 = some [.int .u8 0] := by kernel_rfl
theorem zc_9 : zc Tryz.prog 9 = some [.string (⟨#[]⟩ : ByteArray)] := by kernel_rfl
theorem zc_28 : zc Tryz.prog 28 = some [ptr none] := by kernel_rfl
theorem zc_29 : zc Tryz.prog 29 = some [.int .i64 0] := by kernel_rfl
theorem zc_32 : zc Tryz.prog 32 = some [Sl.v (⟨none, 0, 0⟩ : Sl)] := by kernel_rfl
theorem zc_36 : zc Tryz.prog 36 = some [Sl.v (⟨none, 0, 0⟩ : Sl)] := by kernel_rfl
theorem zc_49 : zc Tryz.prog 49 = some [Sl.v (⟨none, 0, 0⟩ : Sl)] := by kernel_rfl
theorem zc_55 : zc Tryz.prog 55 = some [Sl.v (⟨none, 0, 0⟩ : Sl)] := by kernel_rfl
theorem zc_108 : zc Tryz.prog 108 = some [ptr none] := by kernel_rfl
theorem zc_111 : zc Tryz.prog 111 = some [Sl.v (⟨none, 0, 0⟩ : Sl), Sl.v (⟨none, 0, 0⟩ : Sl)] := by kernel_rfl
theorem zc_115 : zc Tryz.prog 115 = some [Sl.v (⟨none, 0, 0⟩ : Sl), ptr none, ptr none, Sl.v (⟨none, 0, 0⟩ : Sl), .int .i64 0, .bool false, .bool false, .int .i64 0, .int .i64 0] := by kernel_rfl
theorem zc_117 : zc Tryz.prog 117 = some [ptr none, .int .i64 0] := by kernel_rfl
theorem zc_125 : zc Tryz.prog 125 = some [.string (⟨#[]⟩ : ByteArray), .bool false, .bool false, Sl.v (⟨none, 0, 0⟩ : Sl), Sl.v (⟨none, 0, 0⟩ : Sl)] := by kernel_rfl
theorem zc_135 : zc Tryz.prog 135 = some [Sl.v (⟨none, 0, 0⟩ : Sl), .int .i64 0] := by kernel_rfl
theorem zc_141 : zc Tryz.prog 141 = some [.string (⟨#[]⟩ : ByteArray), Sl.v (⟨none, 0, 0⟩ : Sl)] := by kernel_rfl
theorem zc_221 : zc Tryz.prog 221 = some [.string (⟨#[]⟩ : ByteArray), .string (⟨#[]⟩ : ByteArray), .int .i64 0] := by kernel_rfl
theorem zc_373 : zc Tryz.prog 373 = some (List.replicate 32 (.int .u8 0)) := by kernel_rfl
theorem zc_431 : zc Tryz.prog 431 = some [.int .u32 0, .int .u32 0, .int .u32 0, .int .u32 0, .int .u32 0, .int .u32 0, .int .u32 0, .int .u32 0] := by kernel_rfl
theorem zc_434 : zc Tryz.prog 434 = some [.int .u32 0, .int .u32 0, .int .u32 0, .int .u32 0, .int .u32 0, .int .u32 0, .int .u32 0, .int .u32 0, Sl.v (⟨none, 0, 0⟩ : Sl), .int .i64 0] := by kernel_rfl
theorem zc_450 : zc Tryz.prog 450 = some (List.replicate 64 (.int .u32 0)) := by kernel_rfl
end Go.Proofs.YtdndpmlapcbjaaaGreat

namespace Go.Proofs.YtdndpmlapcbjaaaGreat
open Go Go.RowKit
set_option maxRecDepth 100000
theorem ag_34 : aggSize Tryz.prog 34 = 3 := by kernel_rfl
theorem ea_24 : ea Tryz.prog 24 = some (2, 1) := by kernel_rfl
theorem es_22 : es Tryz.prog 22 = some 3 := by kernel_rfl
theorem fo_34_1 : fo Tryz.prog 34 1 = some 1 := by kernel_rfl
theorem fo_34_2 : fo Tryz.prog 34 2 = some 2 := by kernel_rfl
theorem is_22 : isSl Tryz.prog 22 = true := by kernel_rfl
theorem na_23 : nonAgg Tryz.prog 23 = true := by kernel_rfl
theorem sb_34 : (Tryz.prog.info? 34).map (fun i => (i.size, i.bytes)) = some (3, 56) := by kernel_rfl
theorem sz_34 : (Tryz.prog.info? 34).map (·.size) = some 3 := by kernel_rfl
theorem ul_4 : Tryz.prog.underlying 4 = some (.bool) := by kernel_rfl
theorem ul_22 : Tryz.prog.underlying 22 = some (.slice 34) := by kernel_rfl
theorem zc_34 : zc Tryz.prog 34 = some [.int .u64 0, Sl.v (⟨none, 0, 0⟩ : Sl), Sl.v (⟨none, 0, 0⟩ : Sl)] := by kernel_rfl
end Go.Proofs.YtdndpmlapcbjaaaGreat
