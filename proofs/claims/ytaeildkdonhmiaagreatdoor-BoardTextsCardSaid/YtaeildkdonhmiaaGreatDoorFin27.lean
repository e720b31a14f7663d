/- All functions. -/
import Derived.Test.YtaeildkdonhmiaaGreatDoorFin27b
